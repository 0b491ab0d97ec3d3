/-
  The law QueryNobody, in memory: true. Condition: the table of kinds lies as it is laid.
-/
import Derived.Test.YtohpkolkagddiaaDoorQ18
namespace Go.Proofs.QW
open Go.RowKit Go.Proofs.KL Go.Proofs.QM
set_option maxRecDepth 100000
set_option linter.unusedSimpArgs false
set_option linter.unusedVariables false

set_option maxHeartbeats 4000000 in
theorem QueryNobody_any (w : World) (ht : Tab w) (q v : Int) : Calls Tryd.prog 8 #[.int .i64 q, .int .i64 v] w fun e w' => e = .returned (.bool true) ∧ Keeps Nob w w' := by
  have HT := Lib.hid ht
  have hpn : ∀ (w : World), (binOp .neq 35 (.pointer none) (.pointer none)).run Tryd.prog w = .ok (.bool false) w := fun _ => by kernel_rfl
  clear ht
  go_enter Tryd.func8, Tryd.ntmps8
  go_wp2_with (first
    | ((with_reducible refine at_dst (N := 20) rfl ?_); go_must (refine ev_box (cs := #[.slice none 0 0, .slice none 0 0, .map none, .int .i64 0]) rfl rfl (by first | rfl | (go_simp; done) | (go_simp; rfl)) ?_; intro eb w1 heb hle hbe hk1); have Hbe := Lib.hid hbe; clear hbe; (try simp only [Act.put, List.setIfInBounds_toArray, List.set_cons_zero, List.set_cons_succ]))
    | ((with_reducible refine at_dst (N := 21) rfl ?_); go_must (refine ev_slice (cs := #[.pointer none, .pointer (some ⟨eb, 0, none⟩)]) (t := 35) (n := 2) (c := 2) rfl (by first | (go_simp; done) | (go_simp; rfl)) ?_; intro gs w2 hgs hls hbs hk2); have Hbs := Lib.hid hbs; clear hbs; (try simp only [Act.put, List.setIfInBounds_toArray, List.set_cons_zero, List.set_cons_succ])))
  have hE := (blk_cell (hk2.blk Hbe.out id) 2).trans rfl
  have HE := Lib.hid hE
  have HK2 := Lib.hid (hk1.trans hk2 (fun _ _ h => h))
  clear hE hk1 hk2
  go_loopw [23] (fun v wr => ∃ k : Nat, v = .int .i64 k ∧ k ≤ 2 ∧ Hid (Keeps Nob w2 wr))
    (fun v _ => 2 - (intOf v).toNat)
  case atStart => exact ⟨0, rfl, by omega, Lib.hid (Keeps.refl _ _)⟩
  case round =>
    obtain ⟨k, rfl, hk, hkeep⟩ := hrel
    by_cases hlt : k < 2
    · have hp : ∃ p, NoEng p wr ∧ wr.cell? ⟨gs, k, none⟩ = some p := by
        have hb := hkeep.out.blk Hbs.out id
        match k, hlt with
        | 0, _ => exact ⟨_, .inl rfl, (blk_cell hb 0).trans rfl⟩
        | 1, _ => exact ⟨_, .inr ⟨eb, rfl, hkeep.out.cell HE.out id⟩, (blk_cell hb 1).trans rfl⟩
      obtain ⟨p, hn, hcell⟩ := hp
      have Hn := Lib.hid hn
      clear hn
      have hk2' : (k : Int) < 2 := by omega
      go_wp2_with (first
        | (go_at_call 18; go_must (refine (no_Ask Hn.out q v).mono ?_; rintro e wa ⟨rfl, ka⟩))
        | (go_at_call 19; go_must (refine (no_Kept (Hn.out.keep ka) q).mono ?_; rintro e w' ⟨rfl, rfl⟩))
        | (go_at_call 20; go_must (refine (no_Asked (Hn.out.keep ka) q).mono ?_; rintro e wb ⟨A, c, rfl, kb⟩))
        | (go_at_call 21; go_must (refine (no_When ((Hn.out.keep ka).keep kb) q).mono ?_; rintro e wc ⟨rfl, kc⟩))
        | (go_at_call 29; go_must (refine (no_Set (((Hn.out.keep ka).keep kb).keep kc) q v).mono ?_; rintro e w' ⟨rfl, rfl⟩))
        | (go_at_call 30; go_must (refine (no_Forget (((Hn.out.keep ka).keep kb).keep kc) q).mono ?_; rintro e w' ⟨rfl, rfl⟩))
        | (go_at_call 31; go_must (refine (no_Revision (((Hn.out.keep ka).keep kb).keep kc)).mono ?_; rintro e w' ⟨rfl, rfl⟩))
        | (go_at_call 28; go_must (refine (no_Copy (((Hn.out.keep ka).keep kb).keep kc)).mono ?_; rintro e w' ⟨rfl, rfl⟩)))
      go_roundw
      case rel => exact ⟨k + 1, by go_num, by omega, Lib.hid (((hkeep.out.trans ka (fun _ _ h => h)).trans kb (fun _ _ h => h)).trans kc (fun _ _ h => h))⟩
      case measure => simp [intOf]; omega
    · have hk' : k = 2 := by omega
      subst hk'
      have HK := Lib.hid (HK2.out.trans hkeep.out (fun _ _ h => h))
      go_wp2_with (go_at_call 14; go_must (refine (alive_any wr (HT.out.keep HK.out id)).mono ?_; rintro e w3 ⟨rfl, hk3⟩))
      go_ret
      exact ⟨rfl, HK.out.trans hk3 (fun _ _ h => h)⟩
end Go.Proofs.QW
