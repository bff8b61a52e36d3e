/- The replicas as a plain machine: the state and what each deed does with it; no program in sight. -/
import Derived.Test.YtcehlajkpnhdiaaRw
namespace Go.Proofs.Ytcehlajkpnhdiaa.Rp
open Go.Proofs.Ytcehlajkpnhdiaa.Rw
set_option linter.unusedSimpArgs false
set_option linter.unusedVariables false
/-- N replicas are numbered 0 to N - 1; 'lead' is the leader's number and one, 0 if there is none. -/
structure St where
  logs : Nat → List Cp
  ups : Nat → Bool
  epoch : Int
  lead : Nat
  ins : Nat → Bool
  mat : Nat → Nat
  high : Nat
def St.his (s : St) : List Cp := s.logs (s.lead - 1)
def leastTo (s : St) : Nat → Nat
  | 0 => s.his.length
  | i + 1 => if s.ins i = true then min (leastTo s i) (s.mat i) else leastTo s i
def rise (N : Nat) (s : St) : St := { s with high := max s.high (leastTo s N) }
def endTo (l : List Cp) (e : Int) : Nat → Nat
  | 0 => 0
  | n + 1 => if e < (l.getD n cz).1 then endTo l e n else n + 1
def endN (l : List Cp) (e : Int) : Nat := endTo l e l.length
def endE (l : List Cp) (e : Int) : Int := if endN l e = 0 then 0 else (l.getD (endN l e - 1) cz).1
def lastE (l : List Cp) : Int := (l.getD (l.length - 1) cz).1
def cutTo (mine his : List Cp) : Nat := min (endN his (lastE mine)) (endN mine (endE his (lastE mine)))
/-- Is something to be cut off? -/
def cuts (mine his : List Cp) : Bool := decide (0 < mine.length) && (!(endE his (lastE mine) == lastE mine) || decide (cutTo mine his < mine.length))
def more (mine his : List Cp) : List Cp := (his.drop mine.length).take 3
def put (N : Nat) (s : St) (v : Int) : Int × St :=
  if s.lead = 0 then (14, s) else if 200 ≤ s.his.length then (5, s)
  else (0, rise N { s with logs := upd s.logs (s.lead - 1) (s.his ++ [(s.epoch, v)]), mat := upd s.mat (s.lead - 1) (s.his.length + 1) })
/-- What a fetch that takes leaves. -/
def took (N : Nat) (s : St) (n : Nat) (l : List Cp) : St :=
  rise N { s with logs := upd s.logs n l, mat := upd s.mat n l.length, ins := if s.high ≤ l.length ∧ l.length = s.his.length then upd s.ins n true else s.ins }
def fetch (N : Nat) (s : St) (n : Nat) : Int × St :=
  if s.lead = 0 ∨ s.ups n = false then (14, s) else if n + 1 = s.lead then (9, s)
  else if cuts (s.logs n) s.his = true then (0, { s with logs := upd s.logs n ((s.logs n).take (cutTo (s.logs n) s.his)) })
  else (0, took N s n (s.logs n ++ more (s.logs n) s.his))
def fail (N : Nat) (s : St) (n : Nat) : Int × St :=
  if s.ups n = false then (14, s) else if n + 1 = s.lead then (0, { s with ups := upd s.ups n false, lead := 0 })
  else if s.lead ≠ 0 ∧ s.ins n = true then (0, rise N { s with ups := upd s.ups n false, ins := upd s.ins n false })
  else (0, { s with ups := upd s.ups n false })
/-- The first one from i on that is up and in sync, out of k more. -/
def first (s : St) : Nat → Nat → Option Nat
  | _, 0 => none
  | i, k + 1 => if s.ups i = true ∧ s.ins i = true then some i else first s (i + 1) k
def crown (N : Nat) (s : St) (i : Nat) : St :=
  rise N { s with epoch := s.epoch + 1, lead := i + 1, mat := upd (fun _ => 0) i (s.logs i).length, ins := fun k => s.ins k && s.ups k }
def elect (N : Nat) (s : St) : Int × St :=
  if s.lead ≠ 0 then (9, s) else match first s 0 N with
    | none => (3, s)
    | some i => (0, crown N s i)
def begin_ (s : St) (n : Nat) : Int × St := if s.ups n = true then (9, s) else (0, { s with ups := upd s.ups n true })
def shrink (N : Nat) (s : St) (n : Nat) : Int × St :=
  if s.lead = 0 then (14, s) else if n + 1 = s.lead ∨ s.ins n = false then (9, s) else (0, rise N { s with ins := upd s.ins n false })
def isN (N : Nat) (n : Int) : Bool := decide (1 ≤ n) && decide (n ≤ N)
/-- A deed: its kind, its replica, its value. -/
structure Deed where
  kind : Int
  n : Int
  v : Int
def doIt (N : Nat) (s : St) (d : Deed) : Int × St :=
  if d.kind = 1 then put N s d.v else if d.kind = 6 then elect N s
  else if d.kind = 2 ∨ d.kind = 3 ∨ d.kind = 4 ∨ d.kind = 5 then
    if isN N d.n = false then (1, s)
    else if d.kind = 2 then fetch N s (d.n.toNat - 1) else if d.kind = 3 then fail N s (d.n.toNat - 1)
    else if d.kind = 4 then begin_ s (d.n.toNat - 1) else shrink N s (d.n.toNat - 1)
  else (1, s)
def init : St := { logs := fun _ => [], ups := fun _ => true, epoch := 1, lead := 1, ins := fun _ => true, mat := fun _ => 0, high := 0 }
/-- What the walk asks of a state. -/
structure Fit (N : Nat) (s : St) : Prop where
  n1 : 1 ≤ N
  n5 : N ≤ 5
  lead : s.lead ≤ N
  logs : ∀ i, i < N → (s.logs i).length ≤ 200
  mat : ∀ i, i < N → s.mat i ≤ 200
  high : s.high ≤ 200
  ep : 0 ≤ s.epoch
end Go.Proofs.Ytcehlajkpnhdiaa.Rp
