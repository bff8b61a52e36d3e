/- The chapter's example comes true: awake tells true, and turns nothing that was there. -/
import Derived.Test.YtcfmohhidbneoaaMe
namespace Go.Proofs.Ytcfmohhidbneoaa.Mk
open Go.RowKit Go.Proofs.Ytcfmohhidbneoaa.Ma Go.Proofs.Ytcfmohhidbneoaa.Mw Go.Proofs.Ytcfmohhidbneoaa.Ms Go.Proofs.Ytcfmohhidbneoaa.Mc Go.Proofs.Ytcfmohhidbneoaa.Md Go.Proofs.Ytcfmohhidbneoaa.Mt Go.Proofs.Ytcfmohhidbneoaa.Mu Go.Proofs.Ytcfmohhidbneoaa.Me
set_option linter.unusedSimpArgs false
set_option linter.unusedVariables false
def sa : ByteArray := ⟨#[97]⟩
def sb : ByteArray := ⟨#[98]⟩
def st0 : St := ⟨0, []⟩
def st1 : St := ⟨2, [⟨1, 0, 1, sa⟩, ⟨2, 0, 1, sb⟩]⟩
def st2 : St := ⟨3, [⟨1, 0, 1, sa⟩, ⟨2, 0, 1, sb⟩, ⟨3, 0, 1, sa⟩]⟩
def st3 : St := ⟨3, [⟨1, 0, 1, sa⟩, ⟨3, 0, 1, sa⟩]⟩
theorem bad0 (L : List ByteArray) (h : L.any longB = false) : sendBad 0 1 L = false := by simp only [sendBad, h]; rfl
theorem anyab : [sa, sb].any longB = false := by decide +kernel
theorem anya : [sa].any longB = false := by decide +kernel
theorem e1r : sendR st0 0 1 [sa, sb] = 0 := by simp [sendR, bad0 _ anyab, st0]
theorem e1s : sendS st0 0 1 [sa, sb] = st1 := by simp [sendS, bad0 _ anyab, st0, st1, mk]
theorem e2r : twiceR st1 0 = 0 := by simp [twiceR, sendR, bad0 _ anya, st1]
theorem e2s : twiceS st1 0 = st2 := by simp [twiceS, sendS, bad0 _ anya, st1, st2, mk]
theorem e3r : takeR st2 1 = 0 := by simp [takeR, st2]
theorem e3p : takeP st2 1 = ⟨2, 0, 1, sb⟩ := by simp [takeP, st2]
theorem e3s : takeS st2 1 = st3 := by simp [takeS, st2, st3]
theorem sz1 {s : ByteArray} (h : s = sa ∨ s = sb) : s.size ≤ 9223372036854775807 := by
  rcases h with rfl | rfl <;> decide
theorem f0 : Fine st0 0 := ⟨by simp [st0], by simp [st0], by simp [st0], by simp [st0]⟩
theorem f1 : Fine st1 2 := ⟨by simp [st1], by simp [st1], by simp [st1], by
  intro x hx; simp [st1] at hx; rcases hx with rfl | rfl; exact sz1 (.inl rfl); exact sz1 (.inr rfl)⟩
theorem f2 : Fine st2 3 := ⟨by simp [st2], by simp [st2], by simp [st2], by
  intro x hx; simp [st2] at hx; rcases hx with rfl | rfl | rfl; exact sz1 (.inl rfl); exact sz1 (.inr rfl); exact sz1 (.inl rfl)⟩
theorem quiet_trans {w w1 w2 : World} {S : Nat → Prop} (h : Quiet w w1) (k : Only S w1 w2) (hS : ∀ b, S b → w.heap.size ≤ b) : Quiet w w2 := h.trans k (fun b hb s => by have := hS b s; omega)
set_option maxHeartbeats 1600000 in
theorem awake_any (w : World) : Calls Try.prog 14 #[] w fun e w' => e = .returned (.bool true) ∧ Quiet w w' := by
  go_enter Try.func14, Try.ntmps14
  go_wp2_with fail
  refine (new_any _).mono ?_
  rintro e w1 ⟨rfl, hw1⟩
  have m1 : MailAt w1 w.heap.size st0.sent (.slice none 0 0) st0.l := by rw [hw1]; exact ⟨block_new w _, Row.nil _⟩
  have q1 : Quiet w w1 := by rw [hw1]; exact (Only.refl _ w).alloc _
  have s1 : w1.heap.size = w.heap.size + 1 := by rw [hw1]; simp
  have M1 := Lib.hid m1
  have Q1 := Lib.hid q1
  have S1 := Lib.hid s1
  clear hw1 m1 q1 s1
  go_wp2_with fail
  have hq1 : Quiet w1 (w1.alloc (.cells #[.string ⟨#[97]⟩, .string ⟨#[98]⟩] 9)) := (Only.refl _ w1).alloc _
  have hc1 := send_all w.heap.size (.slice none 0 0) st0 0 0 1 (some ⟨w1.heap.size, 0, none⟩) [sa, sb] 2 (w1.alloc (.cells #[.string ⟨#[97]⟩, .string ⟨#[98]⟩] 9)) ⟨hq1.same M1.out.1 (fun h => h), Row.nil _⟩ f0 (by omega) (by simp) (by simp)
    (.inr ⟨_, 0, rfl, by
      intro i hi
      have hb := block_new w1 (.cells #[.string ⟨#[97]⟩, .string ⟨#[98]⟩] 9)
      match i, hi with
      | 0, _ => exact cell_of hb 0
      | 1, _ => exact cell_of hb 1
      | (n + 2), h => exact absurd h (by simp)⟩)
    (by
      intro b off hb
      right
      intro h
      have e : w1.heap.size = b := by simpa using congrArg (fun o => o.map Addr.block) hb
      rcases h with h | h
      · have := S1.out; omega
      · cases h)
    (by intro s hs; simp at hs; exact sz1 hs)
  rw [e1r, e1s] at hc1
  refine hc1.mono ?_
  rintro e w2 ⟨rfl, v2, m2, o2, n2⟩
  have q2 : Quiet w w2 := quiet_trans (quiet_trans Q1.out hq1 (fun _ h => h.elim)) o2 (fun b h => by
    rcases h with h | h
    · omega
    · cases h)
  have p2 : ∀ b, v2.ownBlock = some b → w.heap.size ≤ b := by
    intro b hb
    rcases n2 b hb with h | h
    · cases h
    · have := S1.out; have := hq1.size; omega
  have M2 := Lib.hid m2
  have Q2 := Lib.hid q2
  have P2 := Lib.hid p2
  clear hc1 hq1 m2 o2 n2 q2 p2
  go_wp2_with fail
  have hc2 := twice_all w.heap.size v2 st1 2 0 w2 M2.out f1 (by omega)
  rw [e2r, e2s] at hc2
  refine hc2.mono ?_
  rintro e w3 ⟨rfl, v3, m3, o3, n3⟩
  have q3 : Quiet w w3 := quiet_trans Q2.out o3 (fun b h => by
    rcases h with h | h
    · omega
    · exact P2.out b h)
  have p3 : ∀ b, v3.ownBlock = some b → w.heap.size ≤ b := by
    intro b hb
    rcases n3 b hb with h | h
    · exact P2.out b h
    · have := Q2.out.size; omega
  have M3 := Lib.hid m3
  have Q3 := Lib.hid q3
  have P3 := Lib.hid p3
  clear hc2 m3 o3 n3 q3 p3
  go_wp2_with fail
  have hc3 := take_all w.heap.size v3 st2 3 1 w3 M3.out f2
  rw [e3r, e3p, e3s] at hc3
  refine hc3.mono ?_
  rintro e w4 ⟨rfl, v4, m4, o4, n4⟩
  have q4 : Quiet w w4 := quiet_trans Q3.out o4 (fun b h => by
    rcases h with h | h
    · omega
    · exact P3.out b h)
  have M4 := Lib.hid m4
  have Q4 := Lib.hid q4
  clear hc3 m4 o4 n4 q4
  have hq : ∀ W : World, (binOp .eql 27 (.agg #[.int .i64 2, .int .i64 0, .int .i64 1, .string ⟨#[98]⟩]) (.agg #[.int .i64 2, .int .i64 0, .int .i64 1, .string ⟨#[98]⟩])).run Try.prog W = .ok (.bool true) W := fun W => by
    have := run_eq27 ⟨2, 0, 1, sb⟩ ⟨2, 0, 1, sb⟩ W
    simpa [pkB, Pk.agg, sb] using this
  simp only [Pk.agg, sb]
  go_wp2_with fail
  have hq5 : Quiet w4 (w4.alloc (.cells #[.int .i64 2, .int .i64 0, .int .i64 1, .string ⟨#[98]⟩] 27)) := (Only.refl _ w4).alloc _
  have HQ5 := Lib.hid hq5
  clear hq5
  refine (list_any w.heap.size st3.sent v4 st3.l _ (by simp [st3]) ⟨HQ5.out.same M4.out.1 (fun h => h), M4.out.2.only HQ5.out (fun _ _ h => h)⟩).mono ?_
  rintro e w6 ⟨u, rfl, r6, b6, p6⟩
  have R6 := Lib.hid r6
  have B6 := Lib.hid b6
  clear r6 b6 p6
  go_wp2_with fail
  have hq7 : Quiet w6 (w6.alloc (.cells #[.int .i64 1, .int .i64 0, .int .i64 1, .string ⟨#[97]⟩, .int .i64 3, .int .i64 0, .int .i64 1, .string ⟨#[97]⟩] 27)) := (Only.refl _ w6).alloc _
  have HQ7 := Lib.hid hq7
  clear hq7
  refine (same_any u _ st3.l st3.l _ (R6.out.only HQ7.out (fun _ _ h => h)) (Row.mk (l := st3.l) (cap := 2) (block_new w6 _) (by simp [st3]) (by unfold maxLen; omega) rfl rfl) (by simp [st3]) (by simp [st3])).mono ?_
  rintro e w8 ⟨⟨b, rfl, hb⟩, n8, rfl⟩
  obtain rfl : b = true := hb.2 rfl
  clear hb
  go_wp2_with fail
  go_ret
  refine ⟨rfl, ?_⟩
  exact (((Q4.out.trans HQ5.out (fun _ _ h => h)).trans (Only.ofBelow (S := fun _ => False) B6.out) (fun _ _ h => h)).trans HQ7.out (fun _ _ h => h)).drewN n8
end Go.Proofs.Ytcfmohhidbneoaa.Mk
