/-
  How the calls of the statements of layer 22 lie in memory, out of their readings. No condition.
-/
import Derived.Test.YtohpkolkagddiaaDoorQ37
import Derived.Test.YtohpkolkagddiaaDoorQ44
namespace Go.Proofs.QW
open Go.RowKit Go.Proofs.KL Go.Proofs.QM Go.ChangeShapes
set_option maxRecDepth 100000

theorem cells56 : Tryd.prog.cellsOf 56 = 3 := by kernel_rfl
theorem cells5 : Tryd.prog.cellsOf 5 = 1 := by kernel_rfl
section
variable {H : Type} {enc : TypeId × Value → H} {W : World} {base : Nat} {sp : Nat → Bool} {held : Bool}
theorem acts_of {fuel : Nat} {v : Value} {x : DataW H × List MemPlace} (h : DataW.trod enc Tryd.prog W base sp held fuel 34 [v] = some x) : ∃ acts, ActsX W (fun _ => True) v acts := by
  rcases DataW.trod_slice Tryd.underlying34 h with ⟨hc, _⟩ | ⟨a, len, cap, elems, rest, n, _, hc, _, _, hl, _, hel, hget, _, _⟩
  · injection hc with hc _
    subst hc
    exact ⟨[], none, 0, rfl, Nat.le_refl _, fun i hi => absurd hi (by simp)⟩
  · injection hc with hc _
    subst hc
    have key : ∀ i, i < len → ∃ r : ActR, ∃ b o, a = ⟨b, o, none⟩ ∧ W.cell? ⟨b, o + i * 3, none⟩ = some (.int .u8 r.kind) ∧ W.cell? ⟨b, o + i * 3 + 1, none⟩ = some (.int .i64 r.q) ∧ W.cell? ⟨b, o + i * 3 + 2, none⟩ = some (.int .i64 r.v) ∧ (0 ≤ r.kind ∧ r.kind ≤ 255) ∧ r.v ≤ 9223372036854775807 := by
      intro i hi
      have hg := hget i hi
      rw [List.getElem?_eq_getElem (by omega), cells56] at hg
      obtain ⟨cs, hcs, hst⟩ := Option.bind_eq_some_iff.1 hg
      obtain ⟨_, hlen, hcell⟩ := World.cells?_some hcs
      obtain ⟨xs, m, _, _, _, hxl, hf⟩ := DataW.trod_struct Tryd.underlying56 hst
      have e0 := hcell 0 (by omega)
      have e1 := hcell 1 (by omega)
      have e2 := hcell 2 (by omega)
      have f0 : DataW.trod enc Tryd.prog W base sp held m 5 ((cs.drop 0).take (Tryd.prog.cellsOf 5)) = xs[0]? := hf 0 _ rfl
      have f1 : DataW.trod enc Tryd.prog W base sp held m 3 ((cs.drop 1).take (Tryd.prog.cellsOf 3)) = xs[1]? := hf 1 _ rfl
      have f2 : DataW.trod enc Tryd.prog W base sp held m 3 ((cs.drop 2).take (Tryd.prog.cellsOf 3)) = xs[2]? := hf 2 _ rfl
      rw [cells5] at f0
      rw [cells3] at f1 f2
      have hxs : xs.length = 3 := hxl
      rw [one_of (List.getElem?_eq_getElem (by omega)), List.getElem?_eq_getElem (by omega)] at f0 f1 f2
      obtain ⟨k0, hk0, _, w0⟩ := DataW.trod_int Tryd.underlying5 f0
      obtain ⟨k1, hk1, _, _⟩ := DataW.trod_int Tryd.underlying3 f1
      obtain ⟨k2, hk2, _, w2⟩ := DataW.trod_int Tryd.underlying3 f2
      injection hk0 with hk0 _
      injection hk1 with hk1 _
      injection hk2 with hk2 _
      rw [List.getElem?_eq_getElem (by omega)] at e0 e1 e2
      rw [hk0] at e0
      rw [hk1] at e1
      rw [hk2] at e2
      have hadd : (a.add (i * 3)).add 0 = a.add (i * 3) := by simp [Addr.add]
      rw [hadd] at e0
      have hsp : ∃ b o, a = ⟨b, o, none⟩ := by
        by_cases h0 : i = 0
        · subst h0
          rw [show (0 * 3 : Nat) = 0 from rfl, show a.add 0 = a by simp [Addr.add]] at e0
          exact spot_none e0
        · have hg0 := hget 0 (by omega)
          rw [List.getElem?_eq_getElem (by omega), cells56] at hg0
          obtain ⟨cs0, hcs0, _⟩ := Option.bind_eq_some_iff.1 hg0
          obtain ⟨_, hlen0, hcell0⟩ := World.cells?_some hcs0
          have := hcell0 0 (by omega)
          rw [List.getElem?_eq_getElem (by omega), show (0 * 3 : Nat) = 0 from rfl, show (a.add 0).add 0 = a by simp [Addr.add]] at this
          exact spot_none this
      obtain ⟨b, o, rfl⟩ := hsp
      simp only [add_at] at e0 e1 e2
      simp only [Lit.wf, Bool.and_eq_true, decide_eq_true_eq] at w0 w2
      rw [show IntKind.u8.min = 0 by decide, show IntKind.u8.max = 255 by decide] at w0
      rw [show IntKind.i64.max = 9223372036854775807 by decide] at w2
      exact ⟨⟨k0, k1, k2⟩, b, o, rfl, e0, e1, e2, by simp only; omega, by simp only; omega⟩
    obtain ⟨acts, hrl, hp⟩ := list_of key
    refine ⟨acts, some a, cap, by rw [hrl], by omega, fun i hi => ?_⟩
    obtain ⟨b, o, rfl, e0, e1, e2, hu⟩ := hp i (by omega)
    exact ⟨b, o, rfl, trivial, e0, e1, e2, hu⟩
end
end Go.Proofs.QW
