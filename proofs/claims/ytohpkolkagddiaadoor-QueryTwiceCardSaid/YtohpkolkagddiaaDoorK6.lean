/-
  A region that leaves its order open, walked in every order that matters: quiet operations are taken as early as they may come; where several operations that act may come next, each of them is walked. No condition but the named tree's own check.
-/
import Derived.Test.YtohpkolkagddiaaDoorK4
namespace Go.Proofs.KL
open Go.RowKit
inductive PT where
  | done : PT
  | q (i : Nat) (r : PT) : PT
  | br (l : List Nat) (f : Nat → PT) : PT
section
variable {P : Program} {ops : Array Oper} {Q : Exit → Act → World → Prop} {S : World → Prop}
def PT.ok (md : Region.Mode) (ops : Array Oper) : PT → Nat → Array Bool → Bool
  | .done, _, listed => (Region.ready md ops listed).isEmpty
  | .q _ _, 0, _ => false
  | .q i r, fuel + 1, listed => Region.free md ops listed i && ((Region.ready md ops listed).contains i && PT.ok md ops r fuel (listed.setIfInBounds i true))
  | .br _ _, 0, _ => false
  | .br l f, fuel + 1, listed => (Region.ready md ops listed == l) && ((!l.isEmpty) && l.all (fun i => PT.ok md ops (f i) fuel (listed.setIfInBounds i true)))
def wpTree (P : Program) (ops : Array Oper) (Q : Exit → Act → World → Prop) (S : World → Prop) : PT → Act → World → Prop
  | .done, a, w => Q .normal a w
  | .q i r, a, w => ∃ o v, ops[i]? = some o ∧ YieldsIf P ops S o v a ∧ wpTree P ops Q S r (a.put o.dst v) w
  | .br l f, a, w => ∀ i ∈ l, ∃ o, ops[i]? = some o ∧ wpList P ops (Exit.then (fun a' w' => S w' ∧ wpTree P ops Q S (f i) a' w') Q) [o] a w
theorem tree_sound {md : Region.Mode} (hs : Region.noSelect ops = true) (hQ : ∀ c a d v w, Q (.panic c) (Act.put a d v) w → Q (.panic c) a w) :
    ∀ (t : PT) (fuel : Nat) (listed : Array Bool) (a : Act) (w : World), PT.ok md ops t fuel listed = true → S w → wpTree P ops Q S t a w → wpAnyH P md ops Q S fuel listed a w
  | .done, fuel, listed, a, w, hB, _, h => wpAnyH_done (by simpa [PT.ok] using hB) h fuel
  | .q i r, 0, listed, a, w, hB, hS, h => by simp [PT.ok] at hB
  | .q i r, fuel + 1, listed, a, w, hB, hS, h => by
    obtain ⟨o, v, ho, hy, h⟩ := h
    simp only [PT.ok, Bool.and_eq_true] at hB
    exact wpAnyH_take ho hs hB.1 hB.2.1 (fun c a w => hQ c a _ _ w) hy hS (tree_sound hs hQ r fuel _ _ _ hB.2.2 hS h)
  | .br l f, 0, listed, a, w, hB, hS, h => by simp [PT.ok] at hB
  | .br l f, fuel + 1, listed, a, w, hB, hS, h => by
    simp only [PT.ok, Bool.and_eq_true, beq_iff_eq] at hB
    refine wpAnyH_all hB.1 (by intro hn; rw [hn] at hB; simp at hB) (fun j hj => ?_)
    obtain ⟨o, ho, h⟩ := h j hj
    have hBj := List.all_eq_true.1 hB.2.2 j hj
    unfold wpOp
    rw [ho]
    have key : ∀ a' w', (S w' ∧ wpTree P ops Q S (f j) a' w') → (S w' ∧ wpAnyH P md ops Q S fuel (listed.setIfInBounds j true) a' w') :=
      fun a' w' ⟨h1, h2⟩ => ⟨h1, tree_sound hs hQ (f j) fuel _ _ _ hBj h1 h2⟩
    unfold wpList at h
    simp only
    split
    · rename_i hw
      rw [if_pos hw] at h
      rcases h with h | ⟨h1, h2⟩
      · refine .inl ?_
        have h' : o.wp P a w (fun a' w' => S w' ∧ wpTree P ops Q S (f j) a' w') Q := h
        exact Oper.wp_mono key h'
      · exact .inr ⟨h1, h2⟩
    · rename_i hw
      rw [if_neg hw] at h
      exact key _ _ h
/-- THE RULE. -/
theorem wp_region_tree {id : Nat} {l : List Oper} {a : Act} {w : World} (t : PT) (S : World → Prop) (hm : P.follows .mixedOrders = true) (hs : Region.noSelect l.toArray = true)
    (hB : PT.ok .any l.toArray t l.toArray.size (Array.replicate l.toArray.size false) = true) (hQ : ∀ c a d v w, Q (.panic c) (Act.put a d v) w → Q (.panic c) a w)
    (hS : S w.drew) (h : wpTree P l.toArray Q S t a w.drew) : (Code.region id l.toArray true).wp P Q a w :=
  wp_region_held (S := S) hm (tree_sound hs hQ t _ _ _ _ hB hS h)
theorem tree_nil {a : Act} {w : World} (h : Q .normal a w) : wpTree P ops Q S .done a w := h
theorem tree_q {i : Nat} {r : PT} {l : List Oper} {o : Oper} {v : Value} {a : Act} {w : World} (d : Option Tmp) (ho : l[i]? = some o) (hd : o.dst = d) (hw : Region.wanted o (yielded l.toArray a.tmps) = true) (hr : ∀ w', S w' → (execOp a.eval o).run P w' = .ok (.value v) w')
    (h : wpTree P l.toArray Q S r (a.put d v) w) : wpTree P l.toArray Q S (.q i r) a w := ⟨o, v, by simpa using ho, .inl ⟨hw, hr⟩, hd ▸ h⟩
theorem tree_skip {i : Nat} {r : PT} {l : List Oper} {o : Oper} {a : Act} {w : World} (d : Option Tmp) (ho : l[i]? = some o) (hd : o.dst = d) (hw : Region.wanted o (yielded l.toArray a.tmps) = false)
    (h : wpTree P l.toArray Q S r (a.put d undef) w) : wpTree P l.toArray Q S (.q i r) a w := ⟨o, undef, by simpa using ho, .inr ⟨hw, rfl⟩, hd ▸ h⟩
theorem tree_e {i : Nat} {r : PT} {f : Nat → PT} {l : List Oper} {o : Oper} {a : Act} {w : World} (ho : l[i]? = some o) (hf : f i = r)
    (h : wpList P l.toArray (Exit.then (fun a' w' => S w' ∧ wpTree P l.toArray Q S r a' w') Q) [o] a w) : wpTree P l.toArray Q S (.br [i] f) a w := by
  intro j hj
  rw [List.mem_singleton.1 hj]
  exact ⟨o, by simpa using ho, hf ▸ h⟩
theorem tree_b {i : Nat} {r : PT} {m : List Nat} {f : Nat → PT} {l : List Oper} {o : Oper} {a : Act} {w : World} (ho : l[i]? = some o) (hf : f i = r)
    (h : wpList P l.toArray (Exit.then (fun a' w' => S w' ∧ wpTree P l.toArray Q S r a' w') Q) [o] a w) (hm : wpTree P l.toArray Q S (.br m f) a w) : wpTree P l.toArray Q S (.br (i :: m) f) a w := by
  intro j hj
  rcases List.mem_cons.1 hj with rfl | hj
  · exact ⟨o, by simpa using ho, hf ▸ h⟩
  · exact hm j hj
end
end Go.Proofs.KL
