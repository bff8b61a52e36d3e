/- A slice of deeds that came in, opened: the deeds as they lie; 'some' of them; a law's loop over them. -/
import Derived.Test.YtcehlajkpnhdiaaPi
import Derived.Test.YtcehlajkpnhdiaaLn
import Derived.ProofKit
import Derived.OpenShut
import Derived.Deep.Slices
import Derived.Deep.Fields
import Derived.ChangeOld
namespace Go.Proofs.Ytcehlajkpnhdiaa.Mo
open Go.RowKit Go.ChangeShapes Go.WideShapes Go.Deep Go.Proofs.Ytcehlajkpnhdiaa.Rw Go.Proofs.Ytcehlajkpnhdiaa.Rp Go.Proofs.Ytcehlajkpnhdiaa.Ra
set_option linter.unusedSimpArgs false
set_option linter.unusedVariables false
variable {H : Type} {enc : TypeId × Value → H} {w w1 : World} {spare : Nat → Bool} {held : Bool}
def dz : Deed := ⟨0, 0, 0⟩
/-- The deeds lie behind the slice's address. -/
def Deeds (w : World) (A : Option Addr) (L : List Deed) : Prop := L = [] ∨ ∃ b off, A = some ⟨b, off, none⟩ ∧ ∀ i, i < L.length →
  w.cell? ⟨b, off + i * 3, none⟩ = some (.int .i64 (L.getD i dz).kind) ∧ w.cell? ⟨b, off + i * 3 + 1, none⟩ = some (.int .i64 (L.getD i dz).n) ∧ w.cell? ⟨b, off + i * 3 + 2, none⟩ = some (.int .i64 (L.getD i dz).v)
theorem cell_on (ho : Only (fun _ => False) w w1) {a : Addr} {u : Value} (h : w.cell? a = some u) : w1.cell? a = some u := (World.cell?_of_block (ho.block a.block (World.block_lt_of_cell? _ _ h) (fun q => q))).trans h
theorem Deeds.later {A : Option Addr} {L : List Deed} (h : Deeds w A L) (ho : Only (fun _ => False) w w1) : Deeds w1 A L := by
  rcases h with h | ⟨b, off, h1, h2⟩
  · exact .inl h
  · exact .inr ⟨b, off, h1, fun i hi => ⟨cell_on ho (h2 i hi).1, cell_on ho (h2 i hi).2.1, cell_on ho (h2 i hi).2.2⟩⟩
theorem getD_take {L : List Deed} {k i : Nat} (h : i < (L.take k).length) : (L.take k).getD i dz = L.getD i dz := by
  rw [List.length_take] at h
  simp only [List.getD_eq_getElem?_getD]
  rw [List.getElem?_take_of_lt (by omega)]
theorem Deeds.take {A : Option Addr} {L : List Deed} (h : Deeds w A L) (k : Nat) : Deeds w A (L.take k) := by
  rcases h with rfl | ⟨b, off, h1, h2⟩
  · exact .inl (by simp)
  · refine .inr ⟨b, off, h1, fun i hi => ?_⟩
    rw [getD_take hi]
    rw [List.length_take] at hi
    exact h2 i (by omega)
theorem cells29 : Try.prog.cellsOf 29 = 3 := by kernel_rfl
theorem cells3 : Try.prog.cellsOf 3 = 1 := by kernel_rfl
theorem deed_open {n : Nat} {cs : List Value} {y : DataW H × List MemPlace} (h : DataW.trod enc Try.prog w 0 spare held n 29 cs = some y) :
    ∃ d : Deed, cs = [.int .i64 d.kind, .int .i64 d.n, .int .i64 d.v] := by
  obtain ⟨xs, n', _, _, hlen, hxl, hg⟩ := DataW.trod_struct Try.underlying29 h
  rw [cells29] at hlen
  have ex (j : Nat) (hj : j < 3) : ∃ z, xs[j]? = some z := ⟨xs[j]'(by rw [hxl]; exact hj), List.getElem?_eq_getElem _⟩
  obtain ⟨z0, e0⟩ := ex 0 (by omega)
  obtain ⟨z1, e1⟩ := ex 1 (by omega)
  obtain ⟨z2, e2⟩ := ex 2 (by omega)
  match cs, hlen with
  | [c0, c1, c2], _ =>
    have g0 := (hg 0 _ rfl).trans e0
    have g1 := (hg 1 _ rfl).trans e1
    have g2 := (hg 2 _ rfl).trans e2
    simp [cells3] at g0 g1 g2
    obtain ⟨k, h0, _, _⟩ := DataW.trod_int Try.underlying3 g0
    obtain ⟨n, h1, _, _⟩ := DataW.trod_int Try.underlying3 g1
    obtain ⟨d, h2, _, _⟩ := DataW.trod_int Try.underlying3 g2
    simp at h0 h1 h2
    subst h0 h1 h2
    exact ⟨⟨k, n, d⟩, rfl⟩
/-- The argument. -/
theorem deeds_open {v : Value} {D : DataW H} {ps : List MemPlace} (h : DataW.Trod enc Try.prog w 0 (fun _ => true) true 22 v D ps) (hv : ∃ a len cap, v = .slice a len cap) :
    ∃ (A : Option Addr) (c : Nat) (L : List Deed), v = .slice A L.length c ∧ L.length ≤ c ∧ L.length ≤ 9223372036854775807 ∧ Deeds w A L := by
  obtain ⟨a, len, cap, rfl⟩ := hv
  obtain ⟨fuel, hf⟩ := h
  have hf' : DataW.trod enc Try.prog w 0 (fun _ => true) true fuel 22 [.slice a len cap] = some (D, ps) := by simpa [Value.cells] using hf
  rcases open_slice Try.underlying22 hf' with ⟨hcs, _⟩ | ⟨b, len', cap', m, n, D', Pl, hcs, _, hl, hm, hmm, _, hx⟩
  · simp at hcs
    obtain ⟨rfl, rfl, rfl⟩ := hcs
    exact ⟨none, 0, [], rfl, Nat.le_refl _, by simp, .inl rfl⟩
  · simp at hcs
    obtain ⟨rfl, rfl, rfl⟩ := hcs
    have hlm : len ≤ m := by rw [hmm]; split <;> omega
    have each : ∀ i, i < len → ∃ d : Deed, ∀ j u, [Value.int .i64 d.kind, .int .i64 d.n, .int .i64 d.v][j]? = some u → w.cell? ((b.add (i * 3)).add j) = some u := by
      intro i hi
      obtain ⟨cs', h1, h2⟩ := hx i (by omega)
      rw [cells29] at h1
      obtain ⟨d, rfl⟩ := deed_open h2
      obtain ⟨_, h4, h5⟩ := World.cells?_some h1
      refine ⟨d, fun j u hu => ?_⟩
      have hj : j < 3 := by
        have := (List.getElem?_eq_some_iff.1 hu).1
        simpa using this
      rw [h5 j hj, hu]
    haveI : Inhabited Deed := ⟨dz⟩
    obtain ⟨q, hq⟩ := choose_lt each
    unfold maxLen at hm
    refine ⟨some b, cap, (List.range len).map q, by simp, by simpa using hl, by simp; omega, ?_⟩
    by_cases h0 : len = 0
    · left; simp [h0]
    · obtain ⟨b, off, spot⟩ := b
      have c0 := hq 0 (by omega) 0 _ rfl
      have hspot : spot = none := by simpa [Addr.add] using World.cell?_spot c0
      subst hspot
      refine .inr ⟨b, off, rfl, fun i hi => ?_⟩
      simp at hi
      have g := hq i hi
      have e (j : Nat) : ((⟨b, off, none⟩ : Addr).add (i * 3)).add j = ⟨b, off + i * 3 + j, none⟩ := by rw [Addr.add_lit, Addr.add_lit]
      simp only [e] at g
      have t0 := g 0 _ rfl
      have t1 := g 1 _ rfl
      have t2 := g 2 _ rfl
      have hd : ((List.range len).map q).getD i dz = q i := by simp [List.getD, hi]
      rw [hd]
      exact ⟨t0, t1, t2⟩
/-- 'some': not too many. -/
theorem some_any (A : Option Addr) (L : List Deed) (c : Nat) (w : World) (hc : L.length ≤ c) (hn : L.length ≤ 9223372036854775807) : Calls Try.prog 10 #[.slice A L.length c] w fun e w' => e = .returned (.slice A (L.take 200).length c) ∧ w' = w := by
  have hlen : (L.take 200).length = min 200 L.length := List.length_take
  obtain ⟨n, hnn⟩ : ∃ n, n = L.length := ⟨_, rfl⟩
  rw [← hnn] at hc hn hlen
  rw [hlen, ← hnn]
  clear hlen
  by_cases h : 200 < n
  · have hd : decide ((200 : Int) < (n : Int)) = true := by simp; omega
    have hd' : decide (200 < n) = true := by simp; omega
    have h1 : (200 : Int) ≤ (c : Int) := by omega
    have h2 : 200 ≤ c := by omega
    go_enter Try.func10, Try.ntmps10
    go_wp2_with fail
    go_ret
    refine ⟨?_, rfl⟩
    rw [show min 200 n = 200 by omega]
    rfl
  · have hd : decide ((200 : Int) < (n : Int)) = false := by simp; omega
    have hd' : decide (200 < n) = false := by simp; omega
    go_enter Try.func10, Try.ntmps10
    go_wp2_with fail
    go_ret
    refine ⟨?_, rfl⟩
    rw [show min 200 n = n by omega]
    rfl
/-- The state behind the first k deeds. -/
def after (N : Nat) (L : List Deed) : Nat → St
  | 0 => init
  | k + 1 => (doIt N (after N L k) (L.getD k dz)).2
theorem after_fit {N : Nat} (h1 : 1 ≤ N) (h5 : N ≤ 5) (L : List Deed) : ∀ k, Fit N (after N L k) ∧ (after N L k).epoch ≤ 1 + k
  | 0 => ⟨fit_init h1 h5, by show (1 : Int) ≤ 1 + ((0 : Nat) : Int); omega⟩
  | k + 1 => by
    obtain ⟨h, h'⟩ := after_fit h1 h5 L k
    obtain ⟨a, b, c⟩ := fit_next h (L.getD k dz)
    refine ⟨a, ?_⟩
    show (doIt N (after N L k) (L.getD k dz)).2.epoch ≤ 1 + ((k + 1 : Nat) : Int)
    omega
theorem after_leadOk {N : Nat} (L : List Deed) : ∀ k, LeadOk (after N L k)
  | 0 => leadOk_init
  | k + 1 => leadOk_step (after_leadOk L k) (step_do N _ _)
end Go.Proofs.Ytcehlajkpnhdiaa.Mo
