/-
  What the engine's small methods of package query come to (ok, is, input, Revision). Condition: the engine lies in memory as Q1 says.
-/
import Derived.Test.YtohpkolkagddiaaDoorChecked
import Derived.Test.YtohpkolkagddiaaDoorQ1
namespace Go.Proofs.QW
open Go.RowKit Go.Proofs.KL Go.Proofs.QM
set_option maxRecDepth 100000

theorem ok_some (eb mb : Nat) (w : World) (hc : w.cell? ⟨eb, 2, none⟩ = some (.map (some mb))) :
    Calls Tryd.prog 51 #[.pointer (some ⟨eb, 0, none⟩)] w fun e w' => e = .returned (.bool true) ∧ w = w' := by
  have hn := fun (w : World) (r : Option Nat) => run_neq_map_nil (P := Tryd.prog) w 61 3 85 r Tryd.underlying61
  go_enter Tryd.func51, Tryd.ntmps51
  go_wp2
  go_ret
  exact ⟨rfl, rfl⟩
theorem ok_none (eb : Nat) (w : World) (hc : w.cell? ⟨eb, 2, none⟩ = some (.map none)) :
    Calls Tryd.prog 51 #[.pointer (some ⟨eb, 0, none⟩)] w fun e w' => e = .returned (.bool false) ∧ w = w' := by
  have hn := fun (w : World) (r : Option Nat) => run_neq_map_nil (P := Tryd.prog) w 61 3 85 r Tryd.underlying61
  go_enter Tryd.func51, Tryd.ntmps51
  go_wp2
  go_ret
  exact ⟨rfl, rfl⟩
theorem ok_nil (w : World) :
    Calls Tryd.prog 51 #[.pointer none] w fun e w' => e = .returned (.bool false) ∧ w = w' := by
  go_enter Tryd.func51, Tryd.ntmps51
  go_wp2
  go_ret
  exact ⟨rfl, rfl⟩
def isErr (n : Nat) (q : Int) : Int := if q < 0 ∨ (n : Int) ≤ q then 5 else 0
theorem is_some (eb mb : Nat) (q : Int) (A : Option Addr) (n c : Nat) (w : World) (h2 : w.cell? ⟨eb, 2, none⟩ = some (.map (some mb))) (h0 : w.cell? ⟨eb, 0, none⟩ = some (.slice A n c)) (_hn : n ≤ 200) :
    Calls Tryd.prog 38 #[.pointer (some ⟨eb, 0, none⟩), .int .i64 q] w fun e w' => e = .returned (.int .i64 (isErr n q)) ∧ w = w' := by
  unfold isErr
  by_cases hq : q < 0
  · rw [if_pos (.inl hq)]
    go_enter Tryd.func38, Tryd.ntmps38
    go_wp2_with (go_at_call 51; refine (ok_some _ _ _ (by assumption)).mono ?_; rintro e w' ⟨rfl, rfl⟩)
    go_ret
    exact ⟨rfl, rfl⟩
  · by_cases hq2 : (n : Int) ≤ q
    · rw [if_pos (.inr hq2)]
      go_enter Tryd.func38, Tryd.ntmps38
      go_wp2_with (go_at_call 51; refine (ok_some _ _ _ (by assumption)).mono ?_; rintro e w' ⟨rfl, rfl⟩)
      go_ret
      exact ⟨rfl, rfl⟩
    · rw [if_neg (by omega)]
      go_enter Tryd.func38, Tryd.ntmps38
      go_wp2_with (go_at_call 51; refine (ok_some _ _ _ (by assumption)).mono ?_; rintro e w' ⟨rfl, rfl⟩)
      go_ret
      exact ⟨rfl, rfl⟩
theorem is_nil (q : Int) (w : World) :
    Calls Tryd.prog 38 #[.pointer none, .int .i64 q] w fun e w' => e = .returned (.int .i64 1) ∧ w = w' := by
  go_enter Tryd.func38, Tryd.ntmps38
  go_wp2_with (go_at_call 51; refine (ok_nil _).mono ?_; rintro e w' ⟨rfl, rfl⟩)
  go_ret
  exact ⟨rfl, rfl⟩
theorem is_none (eb : Nat) (q : Int) (w : World) (hc : w.cell? ⟨eb, 2, none⟩ = some (.map none)) :
    Calls Tryd.prog 38 #[.pointer (some ⟨eb, 0, none⟩), .int .i64 q] w fun e w' => e = .returned (.int .i64 1) ∧ w = w' := by
  go_enter Tryd.func38, Tryd.ntmps38
  go_wp2_with (go_at_call 51; refine (ok_none _ _ (by assumption)).mono ?_; rintro e w' ⟨rfl, rfl⟩)
  go_ret
  exact ⟨rfl, rfl⟩
theorem input_any (eb : Nat) (q : Int) (rs : List QRule) (X : Nat → Prop) (rv : Value) (w : World) (h0 : w.cell? ⟨eb, 0, none⟩ = some rv) (hr : RulesX w X rv rs) (hq0 : 0 ≤ q) (hq1 : q < rs.length) (_hl : rs.length ≤ 200) :
    Calls Tryd.prog 37 #[.pointer (some ⟨eb, 0, none⟩), .int .i64 q] w fun e w' => e = .returned (.bool ((rs.getD q.toNat default).kind == 1)) ∧ w = w' := by
  obtain ⟨i, rfl⟩ := Int.eq_ofNat_of_zero_le hq0
  obtain ⟨A, c, rfl, hc, hx⟩ := hr
  obtain ⟨b, o, u, rfl, hb, hk, _, _, _⟩ := hx i (by omega)
  clear hx
  have hq1' : i < rs.length := by omega
  simp only [Int.toNat_natCast]
  generalize (rs.getD i default).kind = k at *
  generalize rs.length = n at *
  go_enter Tryd.func37, Tryd.ntmps37
  go_wp2
  go_ret
  exact ⟨rfl, rfl⟩
end Go.Proofs.QW
