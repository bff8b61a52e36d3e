/- MailNone: mail that is none has nothing: the law's walk. -/
import Derived.Test.YtcfmohhidbneoaaMk
namespace Go.Proofs.Ytcfmohhidbneoaa.Ln
open Go.RowKit Go.Proofs.Ytcfmohhidbneoaa.Ma Go.Proofs.Ytcfmohhidbneoaa.Mw Go.Proofs.Ytcfmohhidbneoaa.Ms Go.Proofs.Ytcfmohhidbneoaa.Mc Go.Proofs.Ytcfmohhidbneoaa.Md Go.Proofs.Ytcfmohhidbneoaa.Mt Go.Proofs.Ytcfmohhidbneoaa.Mu Go.Proofs.Ytcfmohhidbneoaa.Me Go.Proofs.Ytcfmohhidbneoaa.Mk
set_option linter.unusedSimpArgs false
set_option linter.unusedVariables false
theorem send_nil (dd ff : Int) (V : Value) (w : World) : Calls Try.prog 15 #[.pointer none, .int .i64 dd, .int .i64 ff, V] w fun e w' => e = .returned (.int .i64 1) ∧ w = w' := by
  go_enter Try.func15, Try.ntmps15
  go_wp2_with fail
  go_ret
  exact ⟨rfl, rfl⟩
def True1 (w : World) (e : Ending) (w' : World) : Prop := e = .returned (.bool true) ∧ Quiet w w'
set_option maxHeartbeats 800000 in
theorem none_any (a b p : Int) (s : ByteArray) (w : World) : Calls Try.prog 7 #[.int .i64 a, .int .i64 b, .int .i64 p, .string s] w (True1 w) := by
  go_enter Try.func7, Try.ntmps7
  go_wp2_with fail
  refine (take_nil _ _).mono ?_
  rintro e w1 ⟨rfl, q1⟩
  have Q1 := Lib.hid q1
  clear q1
  have hq : ∀ W : World, (binOp .eql 27 (.agg #[.int .i64 0, .int .i64 0, .int .i64 0, .string ⟨#[]⟩]) (.agg #[.int .i64 0, .int .i64 0, .int .i64 0, .string ⟨#[]⟩])).run Try.prog W = .ok (.bool true) W := fun W => by
    have := run_eq27 Pk.zero Pk.zero W
    simpa [pkB, Pk.agg, Pk.zero] using this
  simp only [Pk.agg, Pk.zero]
  go_wp2_with fail
  refine (send_nil _ _ _ _).mono ?_
  rintro e w2 ⟨rfl, rfl⟩
  go_wp2_with (first | (go_at_call 12; refine (twice_nil _ _).mono ?_; rintro e w' ⟨rfl, rfl⟩) | (go_at_call 20; refine (len_nil _).mono ?_; rintro e w' ⟨rfl, rfl⟩) | (go_at_call 11; refine (list_nil _).mono ?_; rintro e w' ⟨rfl, rfl⟩))
  refine (awake_any _).mono ?_
  rintro e w3 ⟨rfl, q3⟩
  have Q3 := Lib.hid q3
  clear q3
  go_wp2_with fail
  go_ret
  exact ⟨rfl, ((Q1.out.alloc _).alloc _).trans Q3.out (fun _ _ h => h)⟩
end Go.Proofs.Ytcfmohhidbneoaa.Ln
