/-
  Worlds, blocks and slices: small lemmas that every walk of this seat uses (what stays as it was; new blocks; stores; slices that read as lists). No condition.
-/
import Derived.WalkKit
import Derived.WalkSpells
import Derived.WalkLawsBesides
import Derived.BigQuiet
import Derived.Lib.Hide
import Derived.Deep.LoopGhost
import Derived.Deep.DeepMust
import Derived.Deep.RegionHeld3
namespace Go.Proofs.KL
open Go.RowKit

/-! ### What stays -/
/-- All that was there is as it was, but for the blocks of which M speaks. -/
structure Keeps (M : Nat → Prop) (w w' : World) : Prop where
  os : w'.os = w.os
  tape : w'.tape = w.tape
  output : w'.output = w.output
  size : w.heap.size ≤ w'.heap.size
  block : ∀ k, k < w.heap.size → ¬ M k → w'.heap[k]? = w.heap[k]?
def Nob : Nat → Prop := fun _ => False
theorem Keeps.refl (M : Nat → Prop) (w : World) : Keeps M w w := ⟨rfl, rfl, rfl, Nat.le_refl _, fun _ _ _ => rfl⟩
theorem Keeps.trans {M M' : Nat → Prop} {a b c : World} (h : Keeps M a b) (k : Keeps M' b c) (hm : ∀ i, i < a.heap.size → M' i → M i) : Keeps M a c :=
  ⟨k.os.trans h.os, k.tape.trans h.tape, k.output.trans h.output, Nat.le_trans h.size k.size, fun i hi hn =>
    (k.block i (Nat.lt_of_lt_of_le hi h.size) (fun hk => hn (hm i hi hk))).trans (h.block i hi hn)⟩
theorem Keeps.mono {M M' : Nat → Prop} {a b : World} (h : Keeps M a b) (hm : ∀ i, i < a.heap.size → M i → M' i) : Keeps M' a b :=
  ⟨h.os, h.tape, h.output, h.size, fun i hi hn => h.block i hi (fun hk => hn (hm i hi hk))⟩
theorem Keeps.of_below {w w' : World} (h : Below w.heap.size w w') (M : Nat → Prop) : Keeps M w w' := ⟨h.os, h.tape, h.output, h.size, fun i hi _ => h.block i hi⟩
theorem Keeps.below {w w' : World} (h : Keeps Nob w w') : Below w.heap.size w w' := ⟨h.os, h.tape, h.output, h.size, fun i hi => h.block i hi id⟩
theorem Keeps.alloc {M : Nat → Prop} {a w : World} (h : Keeps M a w) (o : Obj) : Keeps M a (w.alloc o) :=
  h.trans (M' := M) ⟨rfl, rfl, rfl, by simp, fun k hk _ => Below.heap_alloc _ _ _ hk⟩ (fun _ _ h => h)
theorem Keeps.drew {M : Nat → Prop} {a w : World} (h : Keeps M a w) : Keeps M a w.drew := ⟨h.os, h.tape, h.output, h.size, h.block⟩
theorem Keeps.drewN {M : Nat → Prop} {a w : World} (h : Keeps M a w) (n : Nat) : Keeps M a (w.drewN n) := ⟨h.os, h.tape, h.output, h.size, h.block⟩
theorem Keeps.setCell {M : Nat → Prop} {a w : World} (h : Keeps M a w) {p : Addr} (hp : M p.block ∨ a.heap.size ≤ p.block) (u : Value) : Keeps M a (w.setCell p u) :=
  h.trans (M' := fun k => k = p.block) ⟨rfl, rfl, rfl, by simp [World.setCell], fun k _ hn => Below.heap_setCell _ _ _ _ hn⟩
    (fun i hi e => hp.elim (fun h => e ▸ h) (fun h => absurd hi (by omega)))
theorem Keeps.grown {M : Nat → Prop} {a w w' : World} {row : Option Nat} (h : Keeps M a w) (hg : w.grownBy w' row) (hr : ∀ k, row = some k → M k ∨ a.heap.size ≤ k) : Keeps M a w' :=
  h.trans (M' := fun k => some k = row) ⟨hg.os, hg.tape, hg.output, hg.size, fun k hk hn => hg.block k hk hn⟩
    (fun i hi e => (hr i e.symm).elim id (fun h => absurd hi (by omega)))
theorem Keeps.setObj {M : Nat → Prop} {a w : World} (h : Keeps M a w) {r : Nat} (hr : M r ∨ a.heap.size ≤ r) (o : Obj) : Keeps M a { w with heap := w.heap.setIfInBounds r o } :=
  h.trans (M' := fun k => k = r) ⟨rfl, rfl, rfl, by simp, fun k _ hn => by rw [Array.getElem?_setIfInBounds, if_neg (fun e => hn e.symm)]⟩
    (fun i hi e => hr.elim (fun h => e ▸ h) (fun h => absurd hi (by omega)))
theorem blk_lt {w : World} {b : Nat} {o : Obj} (h : w.heap[b]? = some o) : b < w.heap.size := by
  rcases Nat.lt_or_ge b w.heap.size with h' | h'
  · exact h'
  · rw [Array.getElem?_eq_none h'] at h; cases h
theorem Keeps.blk {M : Nat → Prop} {w w' : World} (h : Keeps M w w') {b : Nat} {o : Obj} (hb : w.heap[b]? = some o) (hn : ¬ M b) : w'.heap[b]? = some o := (h.block b (blk_lt hb) hn).trans hb
theorem Keeps.cell {M : Nat → Prop} {w w' : World} (h : Keeps M w w') {p : Addr} {v : Value} (hc : w.cell? p = some v) (hn : ¬ M p.block) : w'.cell? p = some v :=
  (World.cell?_of_block (w := w) (h.block p.block (World.block_lt_of_cell? w p hc) hn)).trans hc
theorem Keeps.frozen {M : Nat → Prop} {w w' : World} (h : Keeps M w w') {p : Addr} (hp : p.block < w.heap.size) (hn : ¬ M p.block) : w'.frozen? p = w.frozen? p :=
  World.frozen?_of_block (w := w) (h.block p.block hp hn)

/-! ### Blocks of cells -/
theorem blk_cell {w : World} {g : Nat} {cs : Array Value} {t : TypeId} {f : Nat × Nat} (h : w.heap[g]? = some (.cells cs t f)) (i : Nat) : w.cell? ⟨g, i, none⟩ = cs[i]? := by
  simp [World.cell?, h]
theorem blk_frozen {w : World} {g : Nat} {cs : Array Value} {t : TypeId} (h : w.heap[g]? = some (.cells cs t (0, 0))) (i : Nat) : w.frozen? ⟨g, i, none⟩ = false := by
  simp [World.frozen?, h]
theorem blk_new (W : World) (o : Obj) : (W.alloc o).heap[W.heap.size]? = some o := by
  show (W.heap.push o)[W.heap.size]? = some o
  simp

section
variable {P : Program} {ops : Array Oper} {rest : List Oper} {o : Oper} {a : Act} {Q : Exit → Act → World → Prop}
/-- An arm's gate: this operation writes slot N. -/
theorem at_dst {N : Tmp} {W : World} (_h : o.dst = some N) (h : wpList P ops Q (o :: rest) a W) : wpList P ops Q (o :: rest) a W := h
theorem at_store {t : TypeId} {p : Tmp} {v : Operand} {W : World} (_h : o.op = .store t (.tmp p) v) (h : wpList P ops Q (o :: rest) a W) : wpList P ops Q (o :: rest) a W := h
theorem ev_run {W w1 : World} {v : Value} (hgd : o.guard = none) (hrun : (execOp a.eval o).run P W = .ok (.value v) w1) (h : wpList P ops Q rest (a.put o.dst v) w1) : wpList P ops Q (o :: rest) a W :=
  wpList_plain hgd fun K hK => by unfold Oper.wp; rw [hrun]; exact hK _ _ h
theorem ev_skip {W w1 : World} (hgd : o.guard = none) (hN : o.dst = none) (hrun : (execOp a.eval o).run P W = .ok .skip w1) (h : wpList P ops Q rest a w1) : wpList P ops Q (o :: rest) a W :=
  wpList_plain hgd fun K hK => by
    unfold Oper.wp; rw [hrun]
    show K (a.put o.dst undef) w1
    rw [hN]; exact hK _ _ h
/-- A new block. -/
theorem ev_new {W : World} (hgd : o.guard = none) {cs : Array Value} {t : TypeId}
    (hrun : (execOp a.eval o).run P W = .ok (.value (.pointer (some ⟨W.heap.size, 0, none⟩))) (W.alloc (.cells cs t (0, 0))))
    (h : ∀ g w1, W.heap.size ≤ g → g < w1.heap.size → w1.heap[g]? = some (.cells cs t (0, 0)) → Keeps Nob W w1 → wpList P ops Q rest (a.put o.dst (.pointer (some ⟨g, 0, none⟩))) w1) : wpList P ops Q (o :: rest) a W :=
  ev_run hgd hrun (h _ _ (Nat.le_refl _) (by simp) (blk_new W _) ((Keeps.refl _ _).alloc _))
/-- A store of a whole value into a block that is known. -/
theorem ev_store {W : World} (hgd : o.guard = none) (hN : o.dst = none) {t : TypeId} {p v : Operand} (ho : o.op = .store t p v) {g off : Nat} {cs cs' : Array Value} {T : TypeId} {x : Value} {vs : List Value} {i : TypeInfo}
    (hp : a.eval p = .pointer (some ⟨g, off, none⟩)) (hx : a.eval v = x) (hv : x.cells.toList = vs) (hi : P.info? t = some i) (hsz : i.size = vs.length) (h1 : vs.all (·.oneCell') = true)
    (hb : W.heap[g]? = some (.cells cs T (0, 0))) (hfit : off + vs.length ≤ cs.size) (hcs : (cs.toList.take off ++ vs ++ cs.toList.drop (off + vs.length)).toArray = cs')
    (h : ∀ w1, w1.heap[g]? = some (.cells cs' T (0, 0)) → Keeps (· = g) W w1 → wpList P ops Q rest a w1) : wpList P ops Q (o :: rest) a W := by
  have hst := run_storeCells_at (P := P) g off T vs 0 cs W hb (by simpa using hfit) (fun u hu => List.all_eq_true.1 h1 u hu)
  have hl : x.cells.size = vs.length := by rw [← hv]; simp
  have hrun : (execOp a.eval o).run P W = .ok .skip (W.setRow g cs') := by
    simp only [execOp, ho, hp, hx, Instr.storeAt, Instr.sureAddr, storeVar, sizeOf, typeInfo]
    rw [← hcs]
    simp [hi, hsz, hl, hv, hst]
  refine ev_skip hgd hN hrun (h _ ?_ ?_)
  · exact setRow_heap W g _ _ T _ hb
  · exact ⟨rfl, rfl, rfl, by simp [World.setRow], fun k _ hn => by simp only [World.setRow, Array.getElem?_modify]; rw [if_neg (fun e => hn e.symm)]⟩
/-- A new variable that holds its type's zero. -/
theorem ev_alloc {W : World} (hgd : o.guard = none) {t : TypeId} (ho : o.op = .alloc t) {z : Value} {cs : Array Value} (hz : (P.info? t).map (·.zero) = some (some z)) (hcs : z.cells = cs)
    (h : ∀ g w1, W.heap.size ≤ g → g < w1.heap.size → w1.heap[g]? = some (.cells cs t (0, 0)) → Keeps Nob W w1 → wpList P ops Q rest (a.put o.dst (.pointer (some ⟨g, 0, none⟩))) w1) : wpList P ops Q (o :: rest) a W := by
  obtain ⟨i, hi, hzz⟩ := Option.map_eq_some_iff.1 hz
  refine ev_new hgd ?_ h
  simp [execOp, ho, Instr.alloc, zeroValue, typeInfo, hi, hzz, newVar, newRow, newObj, hcs]
  rfl
/-- A new variable that holds a value. -/
theorem ev_box {W : World} (hgd : o.guard = none) {t : TypeId} {x : Operand} (ho : o.op = .box t x) {cs : Array Value} (hcs : (a.eval x).cells = cs)
    (h : ∀ g w1, W.heap.size ≤ g → g < w1.heap.size → w1.heap[g]? = some (.cells cs t (0, 0)) → Keeps Nob W w1 → wpList P ops Q rest (a.put o.dst (.pointer (some ⟨g, 0, none⟩))) w1) : wpList P ops Q (o :: rest) a W := by
  refine ev_new hgd ?_ h
  simp [execOp, ho, Instr.box, newVar, newRow, newObj, hcs]
  rfl
end
/-- A block of the call's own is written. -/
theorem Keeps.own {M : Nat → Prop} {a b c : World} {g : Nat} (h : Keeps M a b) (k : Keeps (· = g) b c) (hg : a.heap.size ≤ g) : Keeps M a c :=
  h.trans k (fun i hi e => absurd hi (by omega))
theorem Keeps.into {M : Nat → Prop} {a b c : World} {g : Nat} (h : Keeps M a b) (k : Keeps (· = g) b c) (hg : M g) : Keeps M a c :=
  h.trans k (fun _ _ e => e ▸ hg)
theorem Keeps.then {M : Nat → Prop} {a b c : World} (h : Keeps M a b) (k : Keeps Nob b c) : Keeps M a c := h.trans k (fun _ _ e => e.elim)
theorem Keeps.cells {M : Nat → Prop} {a b : World} (h : Keeps M a b) : ∀ k o, k < a.heap.size → ¬ M k → b.cell? ⟨k, o, none⟩ = a.cell? ⟨k, o, none⟩ :=
  fun k _ hk hn => World.cell?_of_block (w := a) (h.block k hk hn)
theorem Keeps.cells0 {a b : World} (h : Keeps Nob a b) : ∀ k o, k < a.heap.size → b.cell? ⟨k, o, none⟩ = a.cell? ⟨k, o, none⟩ := fun k o hk => h.cells k o hk id
end Go.Proofs.KL
