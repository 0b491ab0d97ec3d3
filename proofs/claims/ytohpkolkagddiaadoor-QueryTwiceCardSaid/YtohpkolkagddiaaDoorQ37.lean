/-
  How the statements' arguments lie in memory, out of their readings: lists of ints, and of rules; and that they read behind a call as before. No condition.
-/
import Derived.Test.YtohpkolkagddiaaDoorC0
import Derived.Test.YtohpkolkagddiaaDoorQ1
import Derived.ChangeSlices
import Derived.ChangeArms
import Derived.Carry
namespace Go.Proofs.QW
open Go.RowKit Go.Proofs.KL Go.Proofs.QM Go.ChangeShapes
set_option maxRecDepth 100000

theorem laidOut : laidOutB Tryd.prog = true := by kernel_rfl
theorem spot_none {w : World} {a : Addr} {v : Value} (h : w.cell? a = some v) : ∃ b o, a = ⟨b, o, none⟩ := by
  obtain ⟨b, o, s⟩ := a
  cases s with
  | none => exact ⟨b, o, rfl⟩
  | some x => unfold World.cell? at h; simp only [Option.isSome_some, if_true] at h; split at h <;> cases h
theorem add_at (b o i : Nat) : (⟨b, o, none⟩ : Addr).add i = ⟨b, o + i, none⟩ := by
  unfold Addr.add
  split
  · rename_i h; subst h; rfl
  · rfl
section
variable {H : Type} {enc : TypeId × Value → H} {W : World} {base : Nat} {sp : Nat → Bool} {held : Bool}
theorem ints_of {fuel : Nat} {v : Value} {x : DataW H × List MemPlace} (h : DataW.trod enc Tryd.prog W base sp held fuel 23 [v] = some x) : ∃ zs, IntsX W (fun _ => True) v zs := by
  rcases open_ints Tryd.underlying23 Tryd.underlying3 cells3 h with ⟨hc, _⟩ | ⟨a, len, cap, zs, hc, _, hl, _, hz, _, hcell, _⟩
  · injection hc with hc _
    subst hc
    exact ⟨[], none, 0, rfl, Nat.le_refl _, fun i hi => absurd hi (by simp)⟩
  · injection hc with hc _
    subst hc
    have hle : len ≤ zs.length := by rw [hz]; split <;> omega
    have hlt : (zs.take len).length = len := by rw [List.length_take]; omega
    refine ⟨zs.take len, some a, cap, by rw [hlt], by omega, fun i hi => ?_⟩
    rw [hlt] at hi
    obtain ⟨b, o, rfl⟩ := spot_none (hcell 0 (by omega) : W.cell? (a.add 0) = _)
    refine ⟨b, o, rfl, trivial, ?_⟩
    have := hcell i (by omega)
    rw [add_at] at this
    rw [this, List.getD_eq_getElem?_getD, List.getD_eq_getElem?_getD, List.getElem?_take, if_pos hi]
theorem list_of {α : Type} [Inhabited α] {n : Nat} {p : Nat → α → Prop} (h : ∀ i, i < n → ∃ a, p i a) : ∃ l : List α, l.length = n ∧ ∀ i, i < n → p i (l.getD i default) := by
  induction n with
  | zero => exact ⟨[], rfl, fun i hi => absurd hi (by omega)⟩
  | succ n ih =>
    obtain ⟨l, hl, hp⟩ := ih (fun i hi => h i (by omega))
    obtain ⟨a, ha⟩ := h n (by omega)
    refine ⟨l ++ [a], by simp [hl], fun i hi => ?_⟩
    rw [List.getD_eq_getElem?_getD, List.getElem?_append]
    by_cases e : i < n
    · rw [if_pos (by omega), ← List.getD_eq_getElem?_getD]; exact hp i e
    · obtain rfl : i = n := by omega
      rw [if_neg (by omega), hl]; simpa using ha
theorem cells72 : Tryd.prog.cellsOf 72 = 3 := by kernel_rfl
theorem cells23 : Tryd.prog.cellsOf 23 = 1 := by kernel_rfl
theorem one_of {l : List Value} {i : Nat} {v : Value} (h : l[i]? = some v) : (l.drop i).take 1 = [v] := by
  obtain ⟨hi, hv⟩ := List.getElem?_eq_some_iff.1 h
  rw [List.drop_eq_getElem_cons hi, hv]; rfl
theorem rules_of {fuel : Nat} {v : Value} {x : DataW H × List MemPlace} (h : DataW.trod enc Tryd.prog W base sp held fuel 22 [v] = some x) : ∃ rs, RulesX W (fun _ => True) v rs := by
  rcases DataW.trod_slice Tryd.underlying22 h with ⟨hc, _⟩ | ⟨a, len, cap, elems, rest, n, _, hc, _, _, hl, _, hel, hget, _, _⟩
  · injection hc with hc _
    subst hc
    exact ⟨[], none, 0, rfl, Nat.le_refl _, fun i hi => absurd hi (by simp)⟩
  · injection hc with hc _
    subst hc
    have key : ∀ i, i < len → ∃ r : QRule, ∃ u b o, a = ⟨b, o, none⟩ ∧ W.cell? ⟨b, o + i * 3, none⟩ = some (.int .i64 r.kind) ∧ W.cell? ⟨b, o + i * 3 + 1, none⟩ = some (.int .i64 r.n) ∧ W.cell? ⟨b, o + i * 3 + 2, none⟩ = some u ∧ IntsX W (fun _ => True) u r.asks := by
      intro i hi
      have hg := hget i hi
      rw [List.getElem?_eq_getElem (by omega), cells72] at hg
      obtain ⟨cs, hcs, hst⟩ := Option.bind_eq_some_iff.1 hg
      obtain ⟨_, hlen, hcell⟩ := World.cells?_some hcs
      obtain ⟨xs, m, _, _, _, hxl, hf⟩ := DataW.trod_struct Tryd.underlying72 hst
      have e0 := hcell 0 (by omega)
      have e1 := hcell 1 (by omega)
      have e2 := hcell 2 (by omega)
      have f0 : DataW.trod enc Tryd.prog W base sp held m 3 ((cs.drop 0).take (Tryd.prog.cellsOf 3)) = xs[0]? := hf 0 _ rfl
      have f1 : DataW.trod enc Tryd.prog W base sp held m 3 ((cs.drop 1).take (Tryd.prog.cellsOf 3)) = xs[1]? := hf 1 _ rfl
      have f2 : DataW.trod enc Tryd.prog W base sp held m 23 ((cs.drop 2).take (Tryd.prog.cellsOf 23)) = xs[2]? := hf 2 _ rfl
      rw [cells3] at f0 f1
      rw [cells23] at f2
      have hxs : xs.length = 3 := hxl
      rw [one_of (List.getElem?_eq_getElem (by omega)), List.getElem?_eq_getElem (by omega)] at f0 f1 f2
      obtain ⟨k0, hk0, _, _⟩ := DataW.trod_int Tryd.underlying3 f0
      obtain ⟨k1, hk1, _, _⟩ := DataW.trod_int Tryd.underlying3 f1
      obtain ⟨zs, hzs⟩ := ints_of f2
      injection hk0 with hk0 _
      injection hk1 with hk1 _
      rw [List.getElem?_eq_getElem (by omega)] at e0 e1 e2
      rw [hk0] at e0
      rw [hk1] at e1
      have hadd : (a.add (i * 3)).add 0 = a.add (i * 3) := by simp [Addr.add]
      rw [hadd] at e0
      have hsp : ∃ b o, a = ⟨b, o, none⟩ := by
        by_cases h0 : i = 0
        · subst h0
          rw [show (0 * 3 : Nat) = 0 from rfl, show a.add 0 = a by simp [Addr.add]] at e0
          exact spot_none e0
        · have hg0 := hget 0 (by omega)
          rw [List.getElem?_eq_getElem (by omega), cells72] at hg0
          obtain ⟨cs0, hcs0, _⟩ := Option.bind_eq_some_iff.1 hg0
          obtain ⟨_, hlen0, hcell0⟩ := World.cells?_some hcs0
          have := hcell0 0 (by omega)
          rw [List.getElem?_eq_getElem (by omega), show (0 * 3 : Nat) = 0 from rfl, show (a.add 0).add 0 = a by simp [Addr.add]] at this
          exact spot_none this
      obtain ⟨b, o, rfl⟩ := hsp
      simp only [add_at] at e0 e1 e2
      exact ⟨⟨k0, k1, zs⟩, _, b, o, rfl, e0, e1, e2, hzs⟩
    obtain ⟨rs, hrl, hp⟩ := list_of key
    refine ⟨rs, some a, cap, by rw [hrl], by omega, fun i hi => ?_⟩
    obtain ⟨u, b, o, rfl, e0, e1, e2, hu⟩ := hp i (by omega)
    exact ⟨b, o, u, rfl, trivial, e0, e1, e2, hu⟩
/-- An argument reads behind a call that wrote nothing old as it did before. -/
theorem arg_stays {t : TypeId} (hr : Tryd.prog.readableRec t = true) (hrow : t < Tryd.prog.types.size) {W' : World} {sp' : Nat → Bool} {v : Value} {d : DataW H} {ps : List MemPlace} (h : DataW.Trod enc Tryd.prog W 0 (fun _ => true) true t v d ps) (hk : Keeps Nob W W')
    (hlt : ∀ p ∈ ps, p.block < W.heap.size) (hs : ∀ p ∈ ps, sp' p.block = true) : DataW.Trod enc Tryd.prog W' 0 sp' true t v d ps :=
  WideElems.Trod_stays laidOut hr hrow h (fun p hp => hk.below.same (hlt p hp)) hs
end
end Go.Proofs.QW
