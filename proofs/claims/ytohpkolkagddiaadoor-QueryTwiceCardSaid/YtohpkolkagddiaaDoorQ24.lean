/-
  Whether values may be those of inputs (the specification's Values), in memory. No condition.
-/
import Derived.Test.YtohpkolkagddiaaDoorQ15
namespace Go.Proofs.QW
open Go.RowKit Go.Proofs.KL Go.Proofs.QM
set_option maxRecDepth 100000
set_option linter.unusedSimpArgs false
set_option linter.unusedVariables false

def valuesOk (rs : List QRule) (vs : List Int) : Bool := decide (vs.length = rs.length) && !(badV rs vs)
set_option maxHeartbeats 2000000 in
theorem Values_any (rs : List QRule) (vs : List Int) (w : World) (X X' : Nat → Prop) (rv iv : Value) (hr : RulesX w X rv rs) (hv : IntsX w X' iv vs) (h200 : rs.length ≤ 200) :
    Calls Tryd.prog 12 #[rv, iv] w fun e w' => e = .returned (.bool (valuesOk rs vs)) ∧ w' = w := by
  obtain ⟨rA, rc, rfl, -, hrc⟩ := id hr
  obtain ⟨vA, vc, rfl, -, hvc⟩ := id hv
  have Hrc := Lib.hid hrc
  have Hvc := Lib.hid hvc
  clear hr hv hrc hvc
  obtain ⟨t, ht⟩ : ∃ t, valuesOk rs vs = t := ⟨_, rfl⟩
  rw [ht]
  have Ht := Lib.hid ht
  clear ht
  by_cases hl : vs.length = rs.length
  · have Hl := Lib.hid hl
    have hlb : ((vs.length : Int) != (rs.length : Int)) = false := by simp [hl]
    clear hl
    go_enter Tryd.func12, Tryd.ntmps12
    go_wp2
    go_loopw [14] (fun v wr => ∃ k : Nat, v = .int .i64 k ∧ k ≤ rs.length ∧ wr = w ∧ Hid (∀ i, i < k → badAt rs vs i = false))
      (fun v _ => rs.length - (intOf v).toNat)
    case atStart => exact ⟨0, rfl, Nat.zero_le _, rfl, Lib.hid (fun i h => absurd h (by omega))⟩
    case round =>
      obtain ⟨k, rfl, hk, rfl, hgood⟩ := hrel
      by_cases hlt : k < rs.length
      · obtain ⟨b, o, rfl, _, hcw⟩ := Hvc.out k (by rw [Hl.out]; exact hlt)
        obtain ⟨b2, o2, u, rfl, _, e0, -, -, -⟩ := Hrc.out k hlt
        have hlv : (k : Int) < vs.length := by have := Hl.out; omega
        have hbk := Lib.hid (show badAt rs vs k = ((rs.getD k default).kind == 1 && (decide (vs.getD k 0 < 0) || decide (1048576 < vs.getD k 0))) from rfl)
        generalize rs.getD k default = r at *
        generalize vs.getD k 0 = v at *
        obtain ⟨kb, hkb⟩ : ∃ x, (r.kind == 1) = x := ⟨_, rfl⟩
        have hb2 := hbk.out
        rw [hkb] at hb2
        by_cases hbad : kb = true ∧ (v < 0 ∨ 1048576 < v)
        · obtain ⟨rfl, hbv⟩ := hbad
          have hbt : badAt rs vs k = true := by rw [hb2]; simp; omega
          have hf := Lib.hid (show t = false by
            rw [← Ht.out]; unfold valuesOk
            rw [show badV rs vs = true from List.any_eq_true.2 ⟨k, List.mem_range.2 hlt, hbt⟩]; simp)
          clear hb2 hbt hbk
          by_cases h1 : v < 0
          · clear hbv
            go_wp2
            go_ret
            exact ⟨by rw [hf.out]; rfl, rfl⟩
          · have h2 : 1048576 < v := by omega
            clear hbv
            go_wp2
            go_ret
            exact ⟨by rw [hf.out]; rfl, rfl⟩
        · have hgk := Lib.hid (show badAt rs vs k = false by
            rw [hb2]
            cases kb with
            | false => rfl
            | true => simp at hbad ⊢; omega)
          clear hb2 hbk
          have Hg := Lib.hid (show ∀ i, i < k + 1 → badAt rs vs i = false from fun i hi => by
            by_cases e : i = k
            · rw [e]; exact hgk.out
            · exact hgood.out i (by omega))
          cases kb with
          | false =>
            clear hbad
            go_wp2
            go_roundw
            case rel => exact ⟨k + 1, by go_num, by omega, by first | rfl | trivial, Hg⟩
            case measure => simp [intOf]; omega
          | true =>
            have v0 : ¬ v < 0 := fun h => hbad ⟨rfl, .inl h⟩
            have v1 : ¬ 1048576 < v := fun h => hbad ⟨rfl, .inr h⟩
            clear hbad
            go_wp2
            go_roundw
            case rel => exact ⟨k + 1, by go_num, by omega, by first | rfl | trivial, Hg⟩
            case measure => simp [intOf]; omega
      · have hk' : k = rs.length := by omega
        subst hk'
        have hnl : ¬ (rs.length : Int) < vs.length := by have := Hl.out; omega
        have hf := Lib.hid (show t = true by
          rw [← Ht.out]; unfold valuesOk
          rw [show badV rs vs = false from by
            unfold badV
            rw [List.any_eq_false]
            intro i hi
            rw [hgood.out i (List.mem_range.1 hi)]
            decide]
          simp [Hl.out])
        go_wp2
        go_ret
        exact ⟨by rw [hf.out]; rfl, rfl⟩
  · have hlb : ((vs.length : Int) != (rs.length : Int)) = true := by simp; omega
    have hf : t = false := by rw [← Ht.out]; unfold valuesOk; rw [decide_eq_false hl]; rfl
    clear hl
    go_enter Tryd.func12, Tryd.ntmps12
    go_wp2
    go_ret
    exact ⟨by rw [hf]; rfl, rfl⟩
end Go.Proofs.QW
