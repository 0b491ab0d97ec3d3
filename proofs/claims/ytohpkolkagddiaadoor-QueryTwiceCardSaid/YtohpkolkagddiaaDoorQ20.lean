/-
  From a row's list of laid variables to the table of kinds in memory. Condition: the list that the rows of this seat have.
-/
import Derived.Test.YtohpkolkagddiaaDoorQ11
import Derived.Test.YtohpkolkagddiaaDoorRows
import Derived.Lib.LaidTab
namespace Go.Proofs.QW
open Go.RowKit Go.Proofs.KL Go.Proofs.QM Go.Lib

theorem tab2_cell {H : Type} {enc : TypeId × Value → H} {P : Program} {w : World} {base : Nat} {sp : Nat → Bool} {held : Bool} {fuel : Nat} {t e ee : TypeId} {n m : Nat} {k : IntKind} {cs : List Value} {rows : List (List Int)} {p : List MemPlace}
    (ht : P.underlying t = some (.array n e)) (he : P.underlying e = some (.array m ee)) (hee : P.underlying ee = some (.int k)) (hcee : P.cellsOf ee = 1) (hce : P.cellsOf e = m)
    (h : DataW.trod enc P w base sp held fuel t cs = some (.agg (rows.map (tabData k)), p)) : ∀ i, i < n → ∀ row, rows[i]? = some row → ∀ j, j < m → cs[i * m + j]? = (row.map fun z => Value.int k z)[j]? := by
  intro i hi row hrow j hj
  cases fuel with
  | zero => simp [DataW.trod] at h
  | succ fuel =>
    simp only [DataW.trod, ht] at h
    split at h
    · obtain ⟨xs, hm, hx⟩ := Option.map_eq_some_iff.1 h
      obtain ⟨b, hb, hf⟩ := mapM_at hm i i (by simp [hi])
      have hxs : xs.map (·.1) = rows.map (tabData k) := by
        have := congrArg Prod.fst hx
        simpa using this
      have hb1 : b.1 = tabData k row := by
        have h2 := congrArg (·[i]?) hxs
        simpa [hb, hrow] using h2
      obtain ⟨b1, b2⟩ := b
      simp only at hb1
      subst hb1
      have := cells_of_tab he hee hcee hce hf
      rw [hce] at this
      rw [← this, List.getElem?_take, if_pos hj, List.getElem?_drop]
    · cases h
theorem gTab : Tryd.prog.globalNamed "marginalia/query.asksOf" = some 0 := by kernel_rfl
theorem gTabType : (Tryd.prog.globals[0]?).map (·.type) = some 110 := by kernel_rfl
theorem cells109 : Tryd.prog.cellsOf 109 = 4 := by kernel_rfl
theorem cells3 : Tryd.prog.cellsOf 3 = 1 := by kernel_rfl
def tabRows : List (List Int) := [[0, 0, 0, 0], [0, 0, 0, 0], [0, 12, 1, 1048576], [2, 12, 0, 0], [0, 12, 0, 0], [2, 2, 0, 0], [1, 1, -1000, 1000]]
theorem tab_of_laid {W : World} (h : laidMet Tryd.prog [("marginalia/query.asksOf", YtohpkolkagddiaaDoor.Rows.laid_marginalia_query_asksOf)] W) : Tab W := by
  obtain ⟨ps, ⟨g', t', cs, fuel, p, q, hg', ht', hvar, hd, _, _⟩, _⟩ := h
  obtain rfl := Option.some.inj (gTab.symm.trans hg')
  obtain rfl := Option.some.inj (gTabType.symm.trans ht')
  have key := tab2_cell (rows := tabRows) Tryd.underlying110 Tryd.underlying109 Tryd.underlying3 cells3 cells109 hd
  have cell : ∀ i j, i < 7 → j < 4 → ∀ row, tabRows[i]? = some row → W.cell? ⟨0, i * 4 + j, none⟩ = (row.map fun z => Value.int .i64 z)[j]? := fun i j hi hj row hrow => by
    rw [← key i hi row hrow j hj]
    have := World.var?_cell gTab hvar (i * 4 + j)
    simpa using this
  intro k h1 h7
  match k, h1, h7 with
  | 1, _, _ => exact ⟨cell 1 0 (by decide) (by decide) _ rfl, cell 1 1 (by decide) (by decide) _ rfl, cell 1 2 (by decide) (by decide) _ rfl, cell 1 3 (by decide) (by decide) _ rfl⟩
  | 2, _, _ => exact ⟨cell 2 0 (by decide) (by decide) _ rfl, cell 2 1 (by decide) (by decide) _ rfl, cell 2 2 (by decide) (by decide) _ rfl, cell 2 3 (by decide) (by decide) _ rfl⟩
  | 3, _, _ => exact ⟨cell 3 0 (by decide) (by decide) _ rfl, cell 3 1 (by decide) (by decide) _ rfl, cell 3 2 (by decide) (by decide) _ rfl, cell 3 3 (by decide) (by decide) _ rfl⟩
  | 4, _, _ => exact ⟨cell 4 0 (by decide) (by decide) _ rfl, cell 4 1 (by decide) (by decide) _ rfl, cell 4 2 (by decide) (by decide) _ rfl, cell 4 3 (by decide) (by decide) _ rfl⟩
  | 5, _, _ => exact ⟨cell 5 0 (by decide) (by decide) _ rfl, cell 5 1 (by decide) (by decide) _ rfl, cell 5 2 (by decide) (by decide) _ rfl, cell 5 3 (by decide) (by decide) _ rfl⟩
  | 6, _, _ => exact ⟨cell 6 0 (by decide) (by decide) _ rfl, cell 6 1 (by decide) (by decide) _ rfl, cell 6 2 (by decide) (by decide) _ rfl, cell 6 3 (by decide) (by decide) _ rfl⟩
end Go.Proofs.QW
