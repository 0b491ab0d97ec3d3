/-
  Slices that are made, built and appended to, as steps of a walk. No condition.
-/
import Derived.Test.YtohpkolkagddiaaDoorK4
import Derived.Deep.AppendLies
namespace Go.Proofs.KL
open Go.RowKit
section
variable {P : Program} {ops : Array Oper} {rest : List Oper} {o : Oper} {a : Act} {Q : Exit → Act → World → Prop}
/-- A slice over a new block. -/
theorem ev_slice {W : World} (hgd : o.guard = none) {cs : Array Value} {t : TypeId} {n c : Nat}
    (hrun : (execOp a.eval o).run P W = .ok (.value (.slice (some ⟨W.heap.size, 0, none⟩) n c)) (W.alloc (.cells cs t (0, 0))))
    (h : ∀ g w1, W.heap.size ≤ g → g < w1.heap.size → w1.heap[g]? = some (.cells cs t (0, 0)) → Keeps Nob W w1 → wpList P ops Q rest (a.put o.dst (.slice (some ⟨g, 0, none⟩) n c)) w1) : wpList P ops Q (o :: rest) a W :=
  ev_run hgd hrun (h _ _ (Nat.le_refl _) (by simp) (blk_new W _) ((Keeps.refl _ _).alloc _))
/-- A new map. -/
theorem ev_makeMap {W : World} (hgd : o.guard = none) {t : TypeId} (ho : o.op = .makeMap t none)
    (h : ∀ g w1, W.heap.size ≤ g → g < w1.heap.size → w1.heap[g]? = some (.map #[] 0) → Keeps Nob W w1 → wpList P ops Q rest (a.put o.dst (.map (some g))) w1) : wpList P ops Q (o :: rest) a W := by
  refine ev_run hgd (w1 := W.alloc (.map #[] 0)) (v := .map (some W.heap.size)) ?_ (h _ _ (Nat.le_refl _) (by simp) (blk_new W _) ((Keeps.refl _ _).alloc _))
  simp [execOp, ho, Instr.makeMap, newObj]
  rfl
theorem madeCells_get {z : Value} {sz : Nat} (hz : z.cells.size = sz) (hs : 0 < sz) {n i : Nat} (hi : i < n) : (madeCells z.cells n)[i]? = some (z.cells[i % sz]'(by rw [hz]; exact Nat.mod_lt _ hs)) := by
  unfold madeCells
  have : i % z.cells.size < z.cells.size := Nat.mod_lt _ (by omega)
  simp [hi, hz, getElem!_pos z.cells (i % sz) (by rw [hz]; exact Nat.mod_lt _ hs)]
/-- make([]T, n). -/
theorem ev_makeSlice {W : World} (hgd : o.guard = none) {t e : TypeId} {x y : Operand} (ho : o.op = .makeSlice t x y) (n : Nat) (hx : a.eval x = .int .i64 n) (hy : a.eval y = .int .i64 n) (ht : P.underlying t = some (.slice e))
    {z : Value} {sz bytes : Nat} (hinf : (P.info? e).map (fun i => (i.zero, i.size, i.bytes)) = some (some z, sz, bytes)) (_hz : z.cells.size = sz) (_hs : 0 < sz) (hl : n * bytes ≤ 281474976710656) (hn : n ≤ 281474976710656)
    (h : ∀ g w1, W.heap.size ≤ g → g < w1.heap.size → w1.heap[g]? = some (.cells (madeCells z.cells (n * sz)) e (0, 0)) → Keeps Nob W w1 → wpList P ops Q rest (a.put o.dst (.slice (some ⟨g, 0, none⟩) n n)) w1) : wpList P ops Q (o :: rest) a W := by
  obtain ⟨i0, hi, hzz⟩ := Option.map_eq_some_iff.1 hinf
  simp only [Prod.mk.injEq] at hzz
  obtain ⟨hz0, hz1, hz2⟩ := hzz
  have hr := run_make (P := P) W t e i0 z ht hi hz0 .i64 .i64 (n : Int) (n : Int) (by omega) (by omega)
    (by
      have h3 : ((i0.bytes * n : Nat) : Int) ≤ 281474976710656 := by rw [hz2, Nat.mul_comm]; omega
      rwa [Int.natCast_mul] at h3) (by omega)
  simp only [Int.toNat_natCast] at hr
  rw [hz1] at hr
  refine ev_slice hgd (cs := madeCells z.cells (n * sz)) (t := e) ?_ h
  simp [execOp, ho, hx, hy, hr]
/-- append(s, x...), s a row of one's own, x a slice that is read. -/
theorem ev_append {W : World} (hgd : o.guard = none) {s x : Operand} {t e : TypeId} (ho : o.op = .call { callee := .builtin .append, args := #[s, x], argTypes := #[t, t] }) (ht : P.underlying t = some (.slice e))
    {z : Value} {sz bytes : Nat} (hinf : (P.info? e).map (fun i => (i.zero, i.size, i.bytes)) = some (some z, sz, bytes)) (hz : z.cells.size = sz) (hs0 : 0 < sz)
    {base : Nat} {v : Value} {n : Nat} {xs : List Value} (hs : a.eval s = v) (hown : W.ownsRow base e sz v n xs) {A : Option Addr} {m c : Nat} {news : List Value} (hx : a.eval x = .slice A m c) (hl : news.length = m * sz)
    (hnews : 0 < m → ∃ ad, A = some ad ∧ ∀ j u, news[j]? = some u → W.cell? (ad.add j) = some u) (h1 : ∀ u ∈ news, u.oneCell' = true) (hbytes : (n + m) * bytes ≤ 140737488355328) (hb0 : 0 < bytes) (hbase : base ≤ W.heap.size)
    (h : ∀ v' w1, w1.ownsRow base e sz v' (n + m) (xs ++ news) → Keeps (fun k => some k = v.ownBlock) W w1 → (v'.ownBlock = v.ownBlock ∨ ∃ b, v'.ownBlock = some b ∧ W.heap.size ≤ b) → (0 < m → ∃ g cap, v' = .slice (some ⟨g, 0, none⟩) (n + m) cap) → wpList P ops Q rest (a.put o.dst v') w1) : wpList P ops Q (o :: rest) a W := by
  obtain ⟨i0, hi, hzz⟩ := Option.map_eq_some_iff.1 hinf
  simp only [Prod.mk.injEq] at hzz
  obtain ⟨hz0, hz1, hz2⟩ := hzz
  have hnm : n + m ≤ 140737488355328 := Nat.le_trans (Nat.le_mul_of_pos_right _ hb0) hbytes
  rcases Nat.eq_zero_or_pos m with hm | hm
  · subst hm
    obtain rfl : news = [] := List.eq_nil_of_length_eq_zero (by omega)
    have hrun : (Builtin.append_ #[t, t] o.type #[v, .slice A 0 c]).run P W = .ok v W := by
      rcases hown.2 with ⟨rfl, hn⟩ | ⟨g, cap, cur, rfl, _, _, hnc, _⟩
      · cases A <;> simp [Builtin.append_, run_underlying ht, sizeOf, typeInfo, hi, Builtin.lenOf, Builtin.firstCells, loadCells, loadCellsFrom]
      · cases A <;> simp [Builtin.append_, run_underlying ht, sizeOf, typeInfo, hi, Builtin.lenOf, Builtin.firstCells, loadCells, loadCellsFrom, hnc, storeCells]
    refine ev_run hgd (v := v) (w1 := W) ?_ (h v W (by simpa using hown) (Keeps.refl _ _) (.inl rfl) (fun h => absurd h (by omega)))
    simp [execOp, ho, resolve, invoke, builtin, hs, hx, hrun]
  · obtain ⟨ad, rfl, hnw⟩ := hnews hm
    obtain ⟨g, cap, w', hrun, ho', hg, hat, hlt⟩ := run_append_lies (P := P) (w := W) t o.type base e i0 z sz bytes ht hi hz0 hz1 hz2 hz hs0 v n xs hown ad m c news hl hnw h1 hm (by unfold maxLen; omega) hbytes hbase _ rfl
    refine ev_run hgd (v := .slice (some ⟨g, 0, none⟩) (n + m) cap) (w1 := w') ?_ (h _ _ ho' ⟨hg.os, hg.tape, hg.output, hg.size, fun k hk hn => hg.block k hk hn⟩ ?_ (fun _ => ⟨g, cap, rfl⟩))
    · simp [execOp, ho, resolve, invoke, builtin, hs, hx, hrun]
    · rcases hat with h2 | h2
      · exact .inl h2.symm
      · exact .inr ⟨g, rfl, by omega⟩
end
end Go.Proofs.KL
