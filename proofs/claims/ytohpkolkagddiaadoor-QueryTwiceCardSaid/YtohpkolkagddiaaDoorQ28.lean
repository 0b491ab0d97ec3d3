/-
  The specification's Plain as it lies in memory: rules, inputs, what is known, what is open; and that it stays while other blocks are written. No condition.
-/
import Derived.Test.YtohpkolkagddiaaDoorQ25
import Derived.Test.YtohpkolkagddiaaDoorQ27
namespace Go.Proofs.QW
open Go.RowKit Go.Proofs.KL Go.Proofs.QM
set_option maxRecDepth 100000

/-- The row of what is known (is, answer, cost, error). -/
def KnownX (w : World) (kb n : Nat) (k : Known) : Prop :=
  ∃ cs : Array Value, w.heap[kb]? = some (.cells cs 80 (0, 0)) ∧ ∀ i, i < n → cs[i * 4]? = some (.bool (k.getD i none).isSome) ∧ cs[i * 4 + 1]? = some (.int .i64 ((k.getD i none).getD (0, 0)).1) ∧
    cs[i * 4 + 2]? = some (.int .i64 ((k.getD i none).getD (0, 0)).2) ∧ cs[i * 4 + 3]? = some (.int .i64 0)
/-- The row of what is open. -/
def OnX (w : World) (nb n : Nat) (on : List Int) : Prop :=
  ∃ cs : Array Value, w.heap[nb]? = some (.cells cs 4 (0, 0)) ∧ ∀ i : Nat, i < n → cs[i]? = some (.bool (decide ((i : Int) ∈ on)))
theorem KnownX.keep {M : Nat → Prop} {w w' : World} {kb n : Nat} {k : Known} (h : KnownX w kb n k) (hk : Keeps M w w') (hn : ¬ M kb) : KnownX w' kb n k := by
  obtain ⟨cs, hb, hx⟩ := h
  exact ⟨cs, hk.blk hb hn, hx⟩
theorem OnX.keep {M : Nat → Prop} {w w' : World} {nb n : Nat} {on : List Int} (h : OnX w nb n on) (hk : Keeps M w w') (hn : ¬ M nb) : OnX w' nb n on := by
  obtain ⟨cs, hb, hx⟩ := h
  exact ⟨cs, hk.blk hb hn, hx⟩
/-- The specification's Plain, as it lies: p's block, and the blocks that its asking writes. -/
structure PlainAt (w : World) (X Y : Nat → Prop) (pb kb nb : Nat) (rules : List QRule) (vs : List Int) (on : List Int) (k : Known) : Prop where
  blk : ∃ rv iv, w.heap[pb]? = some (.cells #[rv, iv, .slice (some ⟨kb, 0, none⟩) rules.length rules.length, .slice (some ⟨nb, 0, none⟩) rules.length rules.length] 78 (0, 0)) ∧ RulesX w X rv rules ∧ IntsX w Y iv vs
  known : KnownX w kb rules.length k
  open_ : OnX w nb rules.length on
  xk : ¬ X kb
  xn : ¬ X nb
  yk : ¬ Y kb
  yn : ¬ Y nb
theorem PlainAt.keep {w w' : World} {X Y : Nat → Prop} {pb kb nb : Nat} {rules : List QRule} {vs on : List Int} {k : Known} (h : PlainAt w X Y pb kb nb rules vs on k) (hk : Keeps Nob w w') : PlainAt w' X Y pb kb nb rules vs on k := by
  obtain ⟨⟨rv, iv, hb, hr, hv⟩, h1, h2, x1, x2, y1, y2⟩ := h
  exact ⟨⟨rv, iv, hk.blk hb id, hr.keep hk (fun _ _ _ => id) (fun _ _ h => h), hv.keep hk (fun _ _ _ => id) (fun _ _ h => h)⟩, h1.keep hk id, h2.keep hk id, x1, x2, y1, y2⟩
end Go.Proofs.QW
