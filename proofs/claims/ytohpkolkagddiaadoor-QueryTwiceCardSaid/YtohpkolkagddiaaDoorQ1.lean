/-
  How the rules, inputs and kept results of layer 22 lie in memory; and that they stay while other blocks are written. No condition.
-/
import Derived.Test.YtohpkolkagddiaaDoorK2
import Derived.Test.YtohpkolkagddiaaDoorQ0
namespace Go.Proofs.QW
open Go.RowKit Go.Proofs.KL Go.Proofs.QM

/-- A slice of ints whose array lies in a block of X. -/
def IntsX (w : World) (X : Nat → Prop) (v : Value) (xs : List Int) : Prop :=
  ∃ A c, v = .slice A xs.length c ∧ xs.length ≤ c ∧ ∀ i, i < xs.length → ∃ b o, A = some ⟨b, o, none⟩ ∧ X b ∧ w.cell? ⟨b, o + i, none⟩ = some (.int .i64 (xs.getD i 0))
/-- A slice of rules. -/
def RulesX (w : World) (X : Nat → Prop) (v : Value) (rs : List QRule) : Prop :=
  ∃ A c, v = .slice A rs.length c ∧ rs.length ≤ c ∧ ∀ i, i < rs.length → ∃ b o u, A = some ⟨b, o, none⟩ ∧ X b ∧ w.cell? ⟨b, o + i * 3, none⟩ = some (.int .i64 (rs.getD i default).kind) ∧
    w.cell? ⟨b, o + i * 3 + 1, none⟩ = some (.int .i64 (rs.getD i default).n) ∧ w.cell? ⟨b, o + i * 3 + 2, none⟩ = some u ∧ IntsX w X u (rs.getD i default).asks
/-- The engine's inputs: a row of kept results (value, what was asked, when checked, when changed). -/
def InpX (w : World) (ib n : Nat) (inp ch : List Int) : Prop :=
  ∃ cs : Array Value, w.heap[ib]? = some (.cells cs 85 (0, 0)) ∧ ∀ i, i < n → cs[i * 4]? = some (.int .i64 (inp.getD i 0)) ∧ cs[i * 4 + 1]? = some (.slice none 0 0) ∧ cs[i * 4 + 2]? = some (.int .i64 0) ∧ cs[i * 4 + 3]? = some (.int .i64 (ch.getD i 0))
def KeptX (w : World) (X : Nat → Prop) (v : Value) (k : KeptR) : Prop :=
  ∃ u, v = .agg #[.int .i64 k.value, u, .int .i64 k.checked, .int .i64 k.changed] ∧ IntsX w X u k.asked
/-- A map of kept results. -/
def AnsX (w : World) (X : Nat → Prop) (mb n : Nat) (ans : List (Option KeptR)) : Prop :=
  ∃ (es : Array MapEntry) (c : Nat), w.heap[mb]? = some (.map es c) ∧ IntKeyed es.toList ∧ (∀ q : Int, ¬ (0 ≤ q ∧ q < n) → mlook es.toList q = none) ∧
    ∀ q : Int, 0 ≤ q → q < n → match ans.getD q.toNat none with
      | some k => ∃ v, mlook es.toList q = some v ∧ KeptX w X v k
      | none => mlook es.toList q = none
/-- The map of the questions that are open. -/
def OpenX (w : World) (ob : Nat) (on : List Int) : Prop :=
  ∃ (es : Array MapEntry) (c : Nat), w.heap[ob]? = some (.map es c) ∧ IntKeyed es.toList ∧ ∀ q : Int, mlook es.toList q = if q ∈ on then some (.bool true) else none

theorem IntsX.keep {M X X' : Nat → Prop} {w w' : World} {v : Value} {xs : List Int} (h : IntsX w X v xs) (hk : Keeps M w w') (hX : ∀ b, b < w.heap.size → X b → ¬ M b) (hX' : ∀ b, b < w.heap.size → X b → X' b) : IntsX w' X' v xs := by
  obtain ⟨A, c, rfl, hc, hx⟩ := h
  refine ⟨A, c, rfl, hc, fun i hi => ?_⟩
  obtain ⟨b, o, rfl, hb, hcell⟩ := hx i hi
  have hlt := World.block_lt_of_cell? _ _ hcell
  exact ⟨b, o, rfl, hX' b hlt hb, hk.cell hcell (hX b hlt hb)⟩
theorem RulesX.keep {M X X' : Nat → Prop} {w w' : World} {v : Value} {rs : List QRule} (h : RulesX w X v rs) (hk : Keeps M w w') (hX : ∀ b, b < w.heap.size → X b → ¬ M b) (hX' : ∀ b, b < w.heap.size → X b → X' b) : RulesX w' X' v rs := by
  obtain ⟨A, c, rfl, hc, hx⟩ := h
  refine ⟨A, c, rfl, hc, fun i hi => ?_⟩
  obtain ⟨b, o, u, rfl, hb, h0, h1, h2, h3⟩ := hx i hi
  have hlt := World.block_lt_of_cell? _ _ h0
  have hn := hX b hlt hb
  exact ⟨b, o, u, rfl, hX' b hlt hb, hk.cell h0 hn, hk.cell h1 hn, hk.cell h2 hn, h3.keep hk hX hX'⟩
theorem InpX.keep {M : Nat → Prop} {w w' : World} {ib n : Nat} {inp ch : List Int} (h : InpX w ib n inp ch) (hk : Keeps M w w') (hn : ¬ M ib) : InpX w' ib n inp ch := by
  obtain ⟨cs, hb, hx⟩ := h
  exact ⟨cs, hk.blk hb hn, hx⟩
theorem KeptX.keep {M X X' : Nat → Prop} {w w' : World} {v : Value} {k : KeptR} (h : KeptX w X v k) (hk : Keeps M w w') (hX : ∀ b, b < w.heap.size → X b → ¬ M b) (hX' : ∀ b, b < w.heap.size → X b → X' b) : KeptX w' X' v k := by
  obtain ⟨u, rfl, hu⟩ := h
  exact ⟨u, rfl, hu.keep hk hX hX'⟩
theorem AnsX.keep {M X X' : Nat → Prop} {w w' : World} {mb n : Nat} {ans : List (Option KeptR)} (h : AnsX w X mb n ans) (hk : Keeps M w w') (hn : ¬ M mb) (hX : ∀ b, b < w.heap.size → X b → ¬ M b) (hX' : ∀ b, b < w.heap.size → X b → X' b) : AnsX w' X' mb n ans := by
  obtain ⟨es, c, hb, hi, ho, hx⟩ := h
  refine ⟨es, c, hk.blk hb hn, hi, ho, fun q h0 h1 => ?_⟩
  have := hx q h0 h1
  split at this
  · obtain ⟨v, hv, hkx⟩ := this
    exact ⟨v, hv, hkx.keep hk hX hX'⟩
  · exact this
theorem OpenX.keep {M : Nat → Prop} {w w' : World} {ob : Nat} {on : List Int} (h : OpenX w ob on) (hk : Keeps M w w') (hn : ¬ M ob) : OpenX w' ob on := by
  obtain ⟨es, c, hb, hi, hx⟩ := h
  exact ⟨es, c, hk.blk hb hn, hi, hx⟩
theorem IntsX.at {w : World} {X : Nat → Prop} {v : Value} {xs : List Int} (h : IntsX w X v xs) : ∃ A c, v = .slice A xs.length c ∧ xs.length ≤ c ∧ ∀ i, i < xs.length → ∃ b o, A = some ⟨b, o, none⟩ ∧ X b ∧ w.cell? ⟨b, o + i, none⟩ = some (.int .i64 (xs.getD i 0)) := h
theorem rule_of (E : Env) {q : Int} {i : Nat} (h : q = (i : Int)) : E.rules.getD i default = E.rule q := by unfold Env.rule; rw [h]; simp
end Go.Proofs.QW
