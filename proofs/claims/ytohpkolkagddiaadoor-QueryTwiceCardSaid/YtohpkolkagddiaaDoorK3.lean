/-
  Operations on maps keyed by integers, as steps of a walk. No condition.
-/
import Derived.Test.YtohpkolkagddiaaDoorK2
namespace Go.Proofs.KL
open Go.RowKit
section
variable {P : Program} {ops : Array Oper} {rest : List Oper} {o : Oper} {a : Act} {Q : Exit → Act → World → Prop} {W : World} {t K E : TypeId} {kk : IntKind} {m : Nat} {es : Array MapEntry} {c : Nat}
theorem ev_lookup {mo ko : Operand} {ok : Bool} (hgd : o.guard = none) (ho : o.op = .lookup t mo ko ok) (ht : P.underlying t = some (.map K E)) (hk : P.underlying K = some (.int kk)) {z : Value} (hz : (P.info? E).map (·.zero) = some (some z))
    {q : Int} (hm : a.eval mo = .map (some m)) (hq : a.eval ko = .int .i64 q) (hb : W.heap[m]? = some (.map es c)) (hkey : IntKeyed es.toList)
    (h : wpList P ops Q rest (a.put o.dst (if ok then .tuple #[(mlook es.toList q).getD z, .bool (mlook es.toList q).isSome] else (mlook es.toList q).getD z)) W) : wpList P ops Q (o :: rest) a W := by
  obtain ⟨i, hi, hzz⟩ := Option.map_eq_some_iff.1 hz
  refine ev_run hgd ?_ h
  simp [execOp, ho, hm, hq, run_lookup_int2 ht hk hi hzz hb hkey]
theorem ev_lookup_ok {mo ko : Operand} (hgd : o.guard = none) (ho : o.op = .lookup t mo ko true) (ht : P.underlying t = some (.map K E)) (hk : P.underlying K = some (.int kk)) {z : Value} (hz : (P.info? E).map (·.zero) = some (some z))
    {q : Int} (hm : a.eval mo = .map (some m)) (hq : a.eval ko = .int .i64 q) (hb : W.heap[m]? = some (.map es c)) (hkey : IntKeyed es.toList)
    (h : wpList P ops Q rest (a.put o.dst (.tuple #[(mlook es.toList q).getD z, .bool (mlook es.toList q).isSome])) W) : wpList P ops Q (o :: rest) a W :=
  ev_lookup hgd ho ht hk hz hm hq hb hkey h
theorem ev_lookup_v {mo ko : Operand} (hgd : o.guard = none) (ho : o.op = .lookup t mo ko false) (ht : P.underlying t = some (.map K E)) (hk : P.underlying K = some (.int kk)) {z : Value} (hz : (P.info? E).map (·.zero) = some (some z))
    {q : Int} (hm : a.eval mo = .map (some m)) (hq : a.eval ko = .int .i64 q) (hb : W.heap[m]? = some (.map es c)) (hkey : IntKeyed es.toList)
    (h : wpList P ops Q rest (a.put o.dst ((mlook es.toList q).getD z)) W) : wpList P ops Q (o :: rest) a W :=
  ev_lookup hgd ho ht hk hz hm hq hb hkey h
theorem ev_mapUpdate {mo ko vo : Operand} (hgd : o.guard = none) (hN : o.dst = none) (ho : o.op = .mapUpdate t mo ko vo) (ht : P.underlying t = some (.map K E)) (hk : P.underlying K = some (.int kk))
    {q : Int} {v : Value} (hm : a.eval mo = .map (some m)) (hq : a.eval ko = .int .i64 q) (hv : a.eval vo = v) (hb : W.heap[m]? = some (.map es c)) (hkey : IntKeyed es.toList)
    (h : ∀ (es' : Array MapEntry) c' w1, w1.heap[m]? = some (.map es' c') → IntKeyed es'.toList → (∀ q', mlook es'.toList q' = if q' = q then some v else mlook es.toList q') → Keeps (· = m) W w1 → wpList P ops Q rest a w1) : wpList P ops Q (o :: rest) a W := by
  obtain ⟨es', c', hr, h1, h2⟩ := run_mapUpdate_int2 ht hk hb hkey q v
  refine ev_skip hgd hN (w1 := { W with heap := W.heap.setIfInBounds m (.map es' c') }) ?_ (h es' c' _ ?_ h1 h2 ((Keeps.refl (· = m) W).setObj (.inl (rfl : m = m)) _))
  · simp [execOp, ho, hm, hq, hv, hr]
  · show (W.heap.setIfInBounds m (.map es' c'))[m]? = _
    rw [Array.getElem?_setIfInBounds, if_pos rfl, if_pos (blk_lt hb)]
theorem ev_delete {mo ko : Operand} {tk : TypeId} (hgd : o.guard = none) (hN : o.dst = none) (ho : o.op = .call { callee := .builtin .delete, args := #[mo, ko], argTypes := #[t, tk] }) (ht : P.underlying t = some (.map K E)) (hk : P.underlying K = some (.int kk))
    {q : Int} (hm : a.eval mo = .map (some m)) (hq : a.eval ko = .int .i64 q) (hb : W.heap[m]? = some (.map es c)) (hkey : IntKeyed es.toList)
    (h : ∀ (es' : Array MapEntry) c' w1, w1.heap[m]? = some (.map es' c') → IntKeyed es'.toList → (∀ q', mlook es'.toList q' = if q' = q then none else mlook es.toList q') → Keeps (· = m) W w1 → wpList P ops Q rest a w1) : wpList P ops Q (o :: rest) a W := by
  obtain ⟨es', c', hr, h1, h2⟩ := run_delete_int2 ht hk hb hkey q o.type tk
  have hrun : (execOp a.eval o).run P W = .ok (.value (.tuple #[])) { W with heap := W.heap.setIfInBounds m (.map es' c') } := by
    simp [execOp, ho, resolve, invoke, builtin, hm, hq, hr]
  refine wpList_plain hgd fun κ hκ => ?_
  unfold Oper.wp
  rw [hrun]
  show κ (a.put o.dst _) _
  rw [hN]
  refine hκ _ _ (h es' c' _ ?_ h1 h2 ((Keeps.refl (· = m) W).setObj (.inl (rfl : m = m)) _))
  show (W.heap.setIfInBounds m (.map es' c'))[m]? = _
  rw [Array.getElem?_setIfInBounds, if_pos rfl, if_pos (blk_lt hb)]
end
end Go.Proofs.KL
