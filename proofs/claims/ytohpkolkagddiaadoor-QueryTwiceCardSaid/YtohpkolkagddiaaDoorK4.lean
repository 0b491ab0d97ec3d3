/-
  A region that leaves its order open, walked in one order that is named: quiet operations are taken as early as they may come, operations that act come one by one. No condition but the named order's own check.
-/
import Derived.Test.YtohpkolkagddiaaDoorK3
import Derived.OrdersHeld
namespace Go.Proofs.KL
open Go.RowKit
section
variable {P : Program} {ops : Array Oper} {Q : Exit → Act → World → Prop} {S : World → Prop}
def permB (md : Region.Mode) (ops : Array Oper) : List (Nat × Bool) → Array Bool → Bool
  | [], listed => (Region.ready md ops listed).isEmpty
  | (i, true) :: r, listed => Region.free md ops listed i && ((Region.ready md ops listed).contains i && permB md ops r (listed.setIfInBounds i true))
  | (i, false) :: r, listed => (Region.ready md ops listed == [i]) && permB md ops r (listed.setIfInBounds i true)
def wpPerm (P : Program) (ops : Array Oper) (Q : Exit → Act → World → Prop) (S : World → Prop) : List (Nat × Bool) → Act → World → Prop
  | [], a, w => Q .normal a w
  | (i, true) :: r, a, w => ∃ o v, ops[i]? = some o ∧ YieldsIf P ops S o v a ∧ wpPerm P ops Q S r (a.put o.dst v) w
  | (i, false) :: r, a, w => ∃ o, ops[i]? = some o ∧ wpList P ops (Exit.then (fun a' w' => S w' ∧ wpPerm P ops Q S r a' w') Q) [o] a w
theorem perm_sound {md : Region.Mode} (hs : Region.noSelect ops = true) (hQ : ∀ c a d v w, Q (.panic c) (Act.put a d v) w → Q (.panic c) a w) :
    ∀ (π : List (Nat × Bool)) (fuel : Nat) (listed : Array Bool) (a : Act) (w : World), permB md ops π listed = true → π.length ≤ fuel → S w → wpPerm P ops Q S π a w → wpAnyH P md ops Q S fuel listed a w
  | [], fuel, listed, a, w, hB, _, _, h => wpAnyH_done (by simpa [permB] using hB) h fuel
  | (i, true) :: r, fuel, listed, a, w, hB, hl, hS, h => by
    obtain ⟨o, v, ho, hy, h⟩ := h
    obtain ⟨fuel, rfl⟩ : ∃ m, fuel = m + 1 := ⟨fuel - 1, by simp at hl; omega⟩
    simp only [permB, Bool.and_eq_true] at hB
    exact wpAnyH_take ho hs hB.1 hB.2.1 (fun c a w => hQ c a _ _ w) hy hS (perm_sound hs hQ r fuel _ _ _ hB.2.2 (by simpa using hl) hS h)
  | (i, false) :: r, fuel, listed, a, w, hB, hl, hS, h => by
    obtain ⟨o, ho, h⟩ := h
    obtain ⟨fuel, rfl⟩ : ∃ m, fuel = m + 1 := ⟨fuel - 1, by simp at hl; omega⟩
    simp only [permB, Bool.and_eq_true, beq_iff_eq] at hB
    refine wpAnyH_all hB.1 (by simp) (fun j hj => ?_)
    rw [List.mem_singleton.1 hj]
    unfold wpOp
    rw [ho]
    have key : ∀ a' w', (S w' ∧ wpPerm P ops Q S r a' w') → (S w' ∧ wpAnyH P md ops Q S fuel (listed.setIfInBounds i true) a' w') :=
      fun a' w' ⟨h1, h2⟩ => ⟨h1, perm_sound hs hQ r fuel _ _ _ hB.2 (by simpa using hl) h1 h2⟩
    unfold wpList at h
    simp only
    split
    · rename_i hw
      rw [if_pos hw] at h
      rcases h with h | ⟨h1, h2⟩
      · refine .inl ?_
        have h' : o.wp P a w (fun a' w' => S w' ∧ wpPerm P ops Q S r a' w') Q := h
        exact Oper.wp_mono key h'
      · exact .inr ⟨h1, h2⟩
    · rename_i hw
      rw [if_neg hw] at h
      exact key _ _ h
/-- THE RULE. -/
theorem wp_region_perm {id : Nat} {l : List Oper} {a : Act} {w : World} (π : List (Nat × Bool)) (S : World → Prop) (hm : P.follows .mixedOrders = true) (hs : Region.noSelect l.toArray = true)
    (hB : permB .any l.toArray π (Array.replicate l.toArray.size false) = true) (hl : π.length ≤ l.toArray.size) (hQ : ∀ c a d v w, Q (.panic c) (Act.put a d v) w → Q (.panic c) a w)
    (hS : S w.drew) (h : wpPerm P l.toArray Q S π a w.drew) : (Code.region id l.toArray true).wp P Q a w :=
  wp_region_held (S := S) hm (perm_sound hs hQ π _ _ _ _ hB hl hS h)
theorem perm_nil {a : Act} {w : World} (h : Q .normal a w) : wpPerm P ops Q S [] a w := h
theorem perm_q {i : Nat} {r : List (Nat × Bool)} {l : List Oper} {o : Oper} {v : Value} {a : Act} {w : World} (d : Option Tmp) (ho : l[i]? = some o) (hd : o.dst = d) (hw : Region.wanted o (yielded l.toArray a.tmps) = true) (hr : ∀ w', S w' → (execOp a.eval o).run P w' = .ok (.value v) w')
    (h : wpPerm P l.toArray Q S r (a.put d v) w) : wpPerm P l.toArray Q S ((i, true) :: r) a w := ⟨o, v, by simpa using ho, .inl ⟨hw, hr⟩, hd ▸ h⟩
theorem perm_skip {i : Nat} {r : List (Nat × Bool)} {l : List Oper} {o : Oper} {a : Act} {w : World} (d : Option Tmp) (ho : l[i]? = some o) (hd : o.dst = d) (hw : Region.wanted o (yielded l.toArray a.tmps) = false)
    (h : wpPerm P l.toArray Q S r (a.put d undef) w) : wpPerm P l.toArray Q S ((i, true) :: r) a w := ⟨o, undef, by simpa using ho, .inr ⟨hw, rfl⟩, hd ▸ h⟩
theorem perm_e {i : Nat} {r : List (Nat × Bool)} {l : List Oper} {o : Oper} {a : Act} {w : World} (ho : l[i]? = some o)
    (h : wpList P l.toArray (Exit.then (fun a' w' => S w' ∧ wpPerm P l.toArray Q S r a' w') Q) [o] a w) : wpPerm P l.toArray Q S ((i, false) :: r) a w := ⟨o, by simpa using ho, h⟩
end
end Go.Proofs.KL
