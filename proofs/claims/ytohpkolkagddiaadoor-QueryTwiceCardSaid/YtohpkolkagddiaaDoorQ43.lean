/-
  A call of Ask, whatever is asked, in memory. Condition: the engine lies and is in order.
-/
import Derived.Test.YtohpkolkagddiaaDoorQ42
namespace Go.Proofs.QW
open Go.RowKit Go.Proofs.KL Go.Proofs.QM
set_option maxRecDepth 100000
set_option linter.unusedSimpArgs false
set_option linter.unusedVariables false

/-- What Ask leaves and returns: what is kept, what was worked out, the value and the error. -/
structure AskRes where
  ans : List (Option KeptR)
  worked : List Int
  v : Int
  e : Int
def askR (E : Env) (ans : List (Option KeptR)) (q most : Int) : AskRes :=
  if isErr E.rules.length q ≠ 0 then ⟨ans, [], 0, 5⟩
  else if most < 0 then ⟨ans, [], 0, 2⟩
  else ⟨(askF (Env.bound E most) (E.rules.length + 1) [] ⟨ans, []⟩ q).1.ans, (askF (Env.bound E most) (E.rules.length + 1) [] ⟨ans, []⟩ q).1.done, (endOf (askF (Env.bound E most) (E.rules.length + 1) [] ⟨ans, []⟩ q)).1, (endOf (askF (Env.bound E most) (E.rules.length + 1) [] ⟨ans, []⟩ q)).2⟩
theorem askR_ans (E : Env) (ans : List (Option KeptR)) (q most : Int) : (askR E ans q most).ans = askS E ans q most := by
  unfold askR askS
  by_cases h : isErr E.rules.length q ≠ 0
  · rw [if_pos h, if_pos (.inl h)]
  · rw [if_neg h]
    by_cases hm : most < 0
    · rw [if_pos hm, if_pos (.inr hm)]
    · rw [if_neg hm, if_neg (by simp only [not_or]; exact ⟨h, hm⟩)]
theorem EngAt.bound {w : World} {X : Nat → Prop} {eb ib mb : Nat} {E : Env} {ans : List (Option KeptR)} (h : EngAt w X eb ib mb E ans) (m : Int) : EngAt w X eb ib mb (Env.bound E m) ans := ⟨h.blk, h.inp, h.ans, h.xe, h.xi, h.xm⟩
theorem EngAt.unbound {w : World} {X : Nat → Prop} {eb ib mb : Nat} {E : Env} {ans : List (Option KeptR)} {m : Int} (h : EngAt w X eb ib mb (Env.bound E m) ans) : EngAt w X eb ib mb E ans := ⟨h.blk, h.inp, h.ans, h.xe, h.xi, h.xm⟩
theorem setF_bound (E : Env) (q v m : Int) : setF (Env.bound E m) q v = (Env.bound (setF E q v).1 m, (setF E q v).2) := by
  unfold setF
  show (if isErr E.rules.length q ≠ 0 then _ else _) = _
  by_cases h1 : isErr E.rules.length q ≠ 0
  · rw [if_pos h1, if_pos h1]
  · rw [if_neg h1, if_neg h1]
    show (if (E.rule q).kind ≠ 1 ∨ v < 0 ∨ 1048576 < v then _ else _) = _
    by_cases h2 : (E.rule q).kind ≠ 1 ∨ v < 0 ∨ 1048576 < v
    · rw [if_pos h2, if_pos h2]
    · rw [if_neg h2, if_neg h2]
      show (if E.inp.getD q.toNat 0 ≠ v then _ else _) = _
      by_cases h3 : E.inp.getD q.toNat 0 ≠ v
      · rw [if_pos h3, if_pos h3]; rfl
      · rw [if_neg h3, if_neg h3]
def AskOut (w : World) (X : Nat → Prop) (eb ib mb : Nat) (E : Env) (r : AskRes) (e : Ending) (w' : World) : Prop :=
  ∃ X' wl, e = .returned (.tuple #[.int .i64 r.v, wl, .int .i64 r.e]) ∧ (∀ b, b < w.heap.size → (X' b ↔ X b)) ∧ (∀ k, X' k → k < w'.heap.size) ∧ Keeps (· = mb) w w' ∧ EngAt w' X' eb ib mb E r.ans ∧
    w'.ownsRow 0 3 1 wl r.worked.length (r.worked.map (Value.int .i64)) ∧ ∀ b, wl.ownBlock = some b → w.heap.size ≤ b ∧ ¬ X' b
theorem EngAt.after {w w' : World} {X : Nat → Prop} {eb ib mb : Nat} {E : Env} {ans : List (Option KeptR)} (h : EngAt w X eb ib mb E ans) (hk : Keeps Nob w w') : EngAt w' X eb ib mb E ans := h.keep hk id id id (fun _ _ _ => id) (fun _ _ => Iff.rfl)
/-- ASK, whatever is asked. -/
theorem AskR_any {rs : List QRule} {n : Int} {E : Env} {ans : List (Option KeptR)} (hS : SInv rs n (E, ans)) (w : World) (X : Nat → Prop) (eb ib mb : Nat) (q most : Int) (hm : most ≤ 9223372036854775807) (he : EngAt w X eb ib mb E ans) (hxl : ∀ k, X k → k < w.heap.size) :
    Calls Tryd.prog 18 #[.pointer (some ⟨eb, 0, none⟩), .int .i64 q, .int .i64 most] w (AskOut w X eb ib mb E (askR E ans q most)) := by
  have h200 : E.rules.length ≤ 200 := hS.ok.len
  unfold askR
  by_cases hq : isErr E.rules.length q ≠ 0
  · rw [if_pos hq]
    have hq' : q < 0 ∨ (E.rules.length : Int) ≤ q := by unfold isErr at hq; split at hq; assumption; exact absurd rfl hq
    refine (Ask_none w X eb ib mb ans q most he h200 hq').mono ?_
    rintro e w' ⟨rfl, hk⟩
    exact ⟨X, _, rfl, fun _ _ => Iff.rfl, fun k hx => Nat.lt_of_lt_of_le (hxl k hx) hk.size, hk.mono (fun _ _ h => h.elim), he.after hk, ⟨rfl, .inl ⟨rfl, rfl⟩⟩, fun b h => by cases h⟩
  · rw [if_neg hq]
    have hq0 : isErr E.rules.length q = 0 := by omega
    by_cases hneg : most < 0
    · rw [if_pos hneg]
      refine (Ask_neg w X eb ib mb ans q most he h200 hq0 hneg).mono ?_
      rintro e w' ⟨rfl, hk⟩
      exact ⟨X, _, rfl, fun _ _ => Iff.rfl, fun k hx => Nat.lt_of_lt_of_le (hxl k hx) hk.size, hk.mono (fun _ _ h => h.elim), he.after hk, ⟨rfl, .inl ⟨rfl, rfl⟩⟩, fun b h => by cases h⟩
    · rw [if_neg hneg]
      have h := Ask_any (hS.env (m := most) (by omega) hm) w X eb ib mb ans q (he.bound most) hxl (hS.pinv (by omega)) (isErr_in hq)
      refine h.mono ?_
      rintro e w' ⟨X', wl, h1, h2, h3, h4, h5, h6, h7⟩
      exact ⟨X', wl, h1, h2, h3, h4, h5.unbound, h6, h7⟩
end Go.Proofs.QW
