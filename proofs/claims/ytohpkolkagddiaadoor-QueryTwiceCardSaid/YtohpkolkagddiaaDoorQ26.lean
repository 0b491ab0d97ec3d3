/-
  The specification's Plain as a plain model: what is known is a list of answers with their cost. No program in sight. No condition.
-/
import Derived.Test.YtohpkolkagddiaaDoorQ0
namespace Go.Proofs.QM

/-- An answer of the specification: what it is, how often rules were worked out, and its error. -/
structure RA where
  n : Int
  cost : Int
  e : Int
deriving DecidableEq
abbrev Known := List (Option (Int × Int))
abbrev RAsk := Known → Int → Known × RA
def capM (c : Int) : Int := min c 1048576
/-- Asking in order, with what was got and the cost so far. -/
def rAll (ask : RAsk) (stop : Bool) : Known → Int → List Int → Known × Int × Except Int (List Int)
  | s, c, [] => (s, c, .ok [])
  | s, c, q :: r =>
    match ask s q with
    | (s1, a) =>
      if a.e ≠ 0 then (s1, capM (c + a.cost), .error a.e)
      else if stop = true ∧ a.n ≠ 0 then (s1, capM (c + a.cost), .ok [a.n])
      else
        match rAll ask stop s1 (capM (c + a.cost)) r with
        | (s2, c2, .error e) => (s2, c2, .error e)
        | (s2, c2, .ok vs) => (s2, c2, .ok (a.n :: vs))
def rRule (ask : RAsk) (s : Known) (r : QRule) : Known × RA :=
  if r.kind = 3 then
    match ask s (r.asks.getD 0 0) with
    | (s1, a) =>
      if a.e ≠ 0 then (s1, ⟨0, capM (1 + a.cost), a.e⟩)
      else
        match ask s1 (pickOf r a.n) with
        | (s2, b) => (s2, ⟨b.n, capM (capM (1 + a.cost) + b.cost), b.e⟩)
  else
    match rAll ask (r.kind == 4) s 1 r.asks with
    | (s1, c, .error e) => (s1, ⟨0, c, e⟩)
    | (s1, c, .ok got) => (s1, ⟨answerOf r got, c, 0⟩)
def rAsk (rules : List QRule) (vs : List Int) : Nat → List Int → RAsk
  | 0, _, s, _ => (s, ⟨0, 0, 99⟩)
  | f + 1, on, s, q =>
    if (rules.getD q.toNat default).kind = 1 then (s, ⟨vs.getD q.toNat 0, 0, 0⟩)
    else if q ∈ on then (s, ⟨0, 0, 8⟩)
    else
      match s.getD q.toNat none with
      | some (n, c) => (s, ⟨n, c, 0⟩)
      | none =>
        match rRule (rAsk rules vs f (q :: on)) s (rules.getD q.toNat default) with
        | (s1, a) => if a.e = 0 then (s1.set q.toNat (some (a.n, a.cost)), a) else (s1, a)
end Go.Proofs.QM
