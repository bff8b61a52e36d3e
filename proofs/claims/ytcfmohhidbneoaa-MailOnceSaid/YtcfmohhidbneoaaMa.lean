/- Words on the mail's memory (an object of two cells, a row of packets), and the contracts of the small functions: who, New, the closure of Send, at, Len. -/
import Derived.Test.YtcfmohhidbneoaaProg
import Derived.WalkKit
import Derived.KernelRfl
import Derived.Deep.QuietTactic
import Derived.BigQuiet
import Derived.BigGuardPart
import Derived.WalkSpells
import Derived.Lib.Hide
namespace Go.Proofs.Ytcfmohhidbneoaa.Ma
open Go.RowKit
set_option linter.unusedSimpArgs false
set_option linter.unusedVariables false

def whoB (n : Int) : Bool := decide (0 ≤ n ∧ n ≤ 8)
theorem who_any (n : Int) (w : World) : Calls Try.prog 24 #[.int .i64 n] w fun e w' => e = .returned (.bool (whoB n)) ∧ w = w' := by
  by_cases h0 : 0 ≤ n
  · by_cases h1 : n ≤ 8
    · go_enter Try.func24, Try.ntmps24
      go_wp2_with fail
      go_ret
      exact ⟨by simp [whoB, h0, h1], rfl⟩
    · go_enter Try.func24, Try.ntmps24
      go_wp2_with fail
      go_ret
      exact ⟨by simp [whoB, h0, h1], rfl⟩
  · go_enter Try.func24, Try.ntmps24
    go_wp2_with fail
    go_ret
    exact ⟨by simp [whoB]; omega, rfl⟩
theorem new_any (w : World) : Calls Try.prog 8 #[] w fun e w' => e = .returned (.pointer (some ⟨w.heap.size, 0, none⟩)) ∧ w' = w.alloc (.cells #[.int .i64 0, .slice none 0 0] 56) := by
  go_enter Try.func8, Try.ntmps8
  go_wp2_with fail
  go_ret
  exact ⟨rfl, rfl⟩
theorem long_any (s : ByteArray) (hs : s.size ≤ 9223372036854775807) (w : World) : Calls Try.prog 23 #[.string s] w fun e w' => e = .returned (.bool (decide (131072 < s.size))) ∧ w = w' := by
  go_enter Try.func23, Try.ntmps23
  go_wp2_with fail
  go_ret
  exact ⟨by simp; omega, rfl⟩
/-- len of the field behind a pointer that is not nil. -/
theorem len_any (m : Nat) (a : Option Addr) (n c : Nat) (w : World) (h1 : w.cell? ⟨m, 1, none⟩ = some (.slice a n c)) :
    Calls Try.prog 20 #[.pointer (some ⟨m, 0, none⟩)] w fun e w' => e = .returned (.int .i64 n) ∧ w = w' := by
  go_enter Try.func20, Try.ntmps20
  go_wp2_with fail
  go_ret
  exact ⟨rfl, rfl⟩
theorem len_nil (w : World) : Calls Try.prog 20 #[.pointer none] w fun e w' => e = .returned (.int .i64 0) ∧ w = w' := by
  go_enter Try.func20, Try.ntmps20
  go_wp2_with fail
  go_ret
  exact ⟨rfl, rfl⟩
theorem at_nil (p : Int) (w : World) : Calls Try.prog 22 #[.pointer none, .int .i64 p] w fun e w' => e = .returned (.bool false) ∧ w = w' := by
  go_enter Try.func22, Try.ntmps22
  go_wp2_with fail
  go_ret
  exact ⟨rfl, rfl⟩
theorem at_any (m : Nat) (p : Int) (a : Option Addr) (n c : Nat) (w : World) (h1 : w.cell? ⟨m, 1, none⟩ = some (.slice a n c)) :
    Calls Try.prog 22 #[.pointer (some ⟨m, 0, none⟩), .int .i64 p] w fun e w' => e = .returned (.bool (decide (0 ≤ p ∧ p < n))) ∧ w = w' := by
  by_cases h0 : 0 ≤ p
  · by_cases h2 : p < n
    · go_enter Try.func22, Try.ntmps22
      go_wp2_with fail
      go_ret
      exact ⟨by simp [h0, h2], rfl⟩
    · go_enter Try.func22, Try.ntmps22
      go_wp2_with fail
      go_ret
      exact ⟨by simp [h0, h2], rfl⟩
  · go_enter Try.func22, Try.ntmps22
    go_wp2_with fail
    go_ret
    exact ⟨by simp; omega, rfl⟩
/-- Texts behind a slice's address. -/
def StrsAt (w : World) (a : Option Addr) (L : List ByteArray) : Prop :=
  L = [] ∨ ∃ b off, a = some ⟨b, off, none⟩ ∧ ∀ i (h : i < L.length), w.cell? ⟨b, off + i, none⟩ = some (.string L[i])
def longB (s : ByteArray) : Bool := decide (131072 < s.size)
def Idx (L : List ByteArray) (w : World) (e : Ending) (w' : World) : Prop := w = w' ∧ ∃ r : Int, e = .returned (.int .i64 r) ∧ (0 ≤ r ↔ L.any longB = true)
set_option maxHeartbeats 400000 in
theorem index_any (a : Option Addr) (L : List ByteArray) (c : Nat) (w : World) (hc : L.length ≤ c) (hn : L.length ≤ 9223372036854775807) (hL : StrsAt w a L) (hs : ∀ s ∈ L, s.size ≤ 9223372036854775807) :
    Calls Try.prog 27 #[.slice a L.length c, .func (.func 23) #[] #[]] w (Idx L w) := by
  rcases hL with rfl | ⟨b, off, rfl, hcell⟩
  · go_enter Try.func27, Try.ntmps27
    go_wp2
    go_loop [8] (fun i => i = .int .i64 0) (fun _ => 0)
    case atStart => rfl
    case round =>
      subst hrel
      go_wp2_with fail
      go_ret
      exact ⟨rfl, -1, rfl, by simp⟩
  · have hcell' : ∀ i (h : i < L.length), w.cell? ⟨b, off + i, none⟩ = some (.string (L.getD i ByteArray.empty)) := by
      intro i h; rw [hcell i h]; simp [List.getD, h]
    have hsz : ∀ i, i < L.length → (L.getD i ByteArray.empty).size ≤ 9223372036854775807 := by
      intro i h; exact hs _ (by simp [List.getD, h])
    go_enter Try.func27, Try.ntmps27
    go_wp2
    go_loop [8] (fun i => ∃ k : Nat, k ≤ L.length ∧ i = .int .i64 k ∧ ∀ j, j < k → longB (L.getD j ByteArray.empty) = false) (fun i => L.length - (intOf i).toNat)
    case atStart => exact ⟨0, by omega, rfl, by omega⟩
    case round =>
      obtain ⟨k, hk, rfl, hall⟩ := hrel
      have Hall := Lib.hid hall
      clear hall
      by_cases hlt : k < L.length
      · obtain ⟨s, hseq⟩ : ∃ s, s = L.getD k ByteArray.empty := ⟨_, rfl⟩
        have hck := hcell' k hlt
        have hsk := hsz k hlt
        rw [← hseq] at hck hsk
        have HS := Lib.hid hseq
        clear hseq hcell hcell' hsz hs
        cases hb : decide (131072 < s.size) with
        | true =>
          have HB := Lib.hid hb
          clear hb
          go_wp2_with (go_at_call 23; refine (long_any s hsk _).mono ?_; rintro e w' ⟨rfl, rfl⟩; rw [HB.out])
          go_ret
          refine ⟨rfl, k, rfl, by constructor <;> intro _; exact List.any_eq_true.2 ⟨s, by rw [HS.out]; simp [List.getD, hlt], HB.out⟩; omega⟩
        | false =>
          have HB := Lib.hid hb
          clear hb
          go_wp2_with (go_at_call 23; refine (long_any s hsk _).mono ?_; rintro e w' ⟨rfl, rfl⟩; rw [HB.out])
          go_round
          case rel =>
            refine ⟨k + 1, by omega, by go_num, fun j hj => ?_⟩
            by_cases e : j = k
            · subst e; rw [← HS.out]; exact HB.out
            · exact Hall.out j (by omega)
          case measure => simp [intOf]; omega
      · obtain rfl : k = L.length := by omega
        clear hcell hcell' hsz hs
        go_wp2_with fail
        go_ret
        refine ⟨rfl, -1, rfl, ⟨fun h => by omega, fun h => ?_⟩⟩
        obtain ⟨s, hs, hb⟩ := List.any_eq_true.1 h
        obtain ⟨j, hj, rfl⟩ := List.mem_iff_getElem.1 hs
        have := Hall.out j hj
        simp [List.getD, hj] at this
        rw [this] at hb; cases hb
set_option maxHeartbeats 400000 in
theorem contains_any (a : Option Addr) (L : List ByteArray) (c : Nat) (w : World) (hc : L.length ≤ c) (hn : L.length ≤ 9223372036854775807) (hL : StrsAt w a L) (hs : ∀ s ∈ L, s.size ≤ 9223372036854775807) :
    Calls Try.prog 25 #[.slice a L.length c, .func (.func 23) #[] #[]] w fun e w' => e = .returned (.bool (L.any longB)) ∧ w = w' := by
  go_enter Try.func25, Try.ntmps25
  go_wp2_with (go_at_call 27; refine (index_any a L c _ hc hn hL hs).mono ?_; rintro e w' ⟨rfl, r, rfl, hr⟩; have HR := Lib.hid hr; clear hr)
  go_ret
  refine ⟨?_, rfl⟩
  have e : decide (0 ≤ r) = L.any longB := by rw [Bool.eq_iff_iff, ← HR.out]; simp
  show Ending.returned (Value.bool (decide (0 ≤ r))) = _
  rw [e]
end Go.Proofs.Ytcfmohhidbneoaa.Ma
