/-
  A nil engine and a zero one, in memory: what each function returns. No condition.
-/
import Derived.Test.YtohpkolkagddiaaDoorQ17
import Derived.Laws.ResultCell
namespace Go.Proofs.QW
open Go.RowKit Go.Proofs.KL Go.Proofs.QM
set_option maxRecDepth 100000
set_option linter.unusedSimpArgs false
set_option linter.unusedVariables false

def NoEng (p : Value) (w : World) : Prop := p = .pointer none ∨ ∃ eb, p = .pointer (some ⟨eb, 0, none⟩) ∧ w.cell? ⟨eb, 2, none⟩ = some (.map none)
theorem NoEng.keep {p : Value} {w w' : World} (h : NoEng p w) (hk : Keeps Nob w w') : NoEng p w' := h.imp id (fun ⟨eb, h1, h2⟩ => ⟨eb, h1, hk.cell h2 id⟩)
theorem no_is {p : Value} {w : World} (h : NoEng p w) (q : Int) : Calls Tryd.prog 38 #[p, .int .i64 q] w fun e w' => e = .returned (.int .i64 1) ∧ w = w' := by
  rcases h with rfl | ⟨eb, rfl, h⟩
  · exact is_nil q w
  · exact is_none eb q w h
theorem no_ok {p : Value} {w : World} (h : NoEng p w) : Calls Tryd.prog 51 #[p] w fun e w' => e = .returned (.bool false) ∧ w = w' := by
  rcases h with rfl | ⟨eb, rfl, h⟩
  · exact ok_nil w
  · exact ok_none eb w h
theorem no_Revision {p : Value} {w : World} (h : NoEng p w) : Calls Tryd.prog 31 #[p] w fun e w' => e = .returned (.int .i64 0) ∧ w = w' := by
  have H := Lib.hid (no_ok h)
  clear h
  go_enter Tryd.func31, Tryd.ntmps31
  go_wp2_with (go_at_call 51; go_must (refine H.out.mono ?_; rintro e w' ⟨rfl, rfl⟩))
  go_ret
  exact ⟨rfl, rfl⟩
theorem no_Copy {p : Value} {w : World} (h : NoEng p w) : Calls Tryd.prog 28 #[p] w fun e w' => e = .returned (.pointer none) ∧ w = w' := by
  have H := Lib.hid (no_ok h)
  clear h
  go_enter Tryd.func28, Tryd.ntmps28
  go_wp2_with (go_at_call 51; go_must (refine H.out.mono ?_; rintro e w' ⟨rfl, rfl⟩))
  go_ret
  exact ⟨rfl, rfl⟩
theorem no_Kept {p : Value} {w : World} (h : NoEng p w) (q : Int) : Calls Tryd.prog 19 #[p, .int .i64 q] w fun e w' => e = .returned (.tuple #[.int .i64 0, .bool false]) ∧ w = w' := by
  have H := Lib.hid (no_is h q)
  clear h
  go_enter Tryd.func19, Tryd.ntmps19
  go_wp2_with (go_at_call 38; go_must (refine H.out.mono ?_; rintro e w' ⟨rfl, rfl⟩))
  go_ret2
  exact ⟨rfl, rfl⟩
theorem no_Set {p : Value} {w : World} (h : NoEng p w) (q v : Int) : Calls Tryd.prog 29 #[p, .int .i64 q, .int .i64 v] w fun e w' => e = .returned (.int .i64 1) ∧ w = w' := by
  have H := Lib.hid (no_is h q)
  clear h
  go_enter Tryd.func29, Tryd.ntmps29
  go_wp2_with (go_at_call 38; go_must (refine H.out.mono ?_; rintro e w' ⟨rfl, rfl⟩))
  go_ret
  exact ⟨rfl, rfl⟩
theorem no_Forget {p : Value} {w : World} (h : NoEng p w) (q : Int) : Calls Tryd.prog 30 #[p, .int .i64 q] w fun e w' => e = .returned (.int .i64 1) ∧ w = w' := by
  have H := Lib.hid (no_is h q)
  clear h
  go_enter Tryd.func30, Tryd.ntmps30
  go_wp2_with (go_at_call 38; go_must (refine H.out.mono ?_; rintro e w' ⟨rfl, rfl⟩))
  go_ret
  exact ⟨rfl, rfl⟩
set_option maxHeartbeats 1000000 in
theorem no_found {p : Value} {w : World} (h : NoEng p w) (q : Int) : Calls Tryd.prog 41 #[p, .int .i64 q] w fun e w' => e = .returned (.tuple #[Z85, .int .i64 1]) ∧ Keeps Nob w w' := by
  obtain ⟨i85, hi85, hs85⟩ := info85
  have HI := Lib.hid (And.intro hi85 hs85)
  have H := Lib.hid h
  clear h hi85 hs85
  go_enter Tryd.func41, Tryd.ntmps41
  go_wp2_with (first
    | ((with_reducible refine at_dst (N := 4) rfl ?_); go_must (refine ev_alloc rfl rfl zero85 rfl ?_; intro g4 w1 hg4 hl4 hb4 hk1); have Hb4 := Lib.hid hb4; clear hb4; (try simp only [Act.put, List.setIfInBounds_toArray, List.set_cons_zero, List.set_cons_succ]))
    | (go_at_call 38; go_must (refine (no_is (H.out.keep hk1) q).mono ?_; rintro e w' ⟨rfl, rfl⟩))
    | ((with_reducible refine at_store (t := 85) rfl ?_); go_must (refine ev_store (cs' := #[.int .i64 0, .slice none 0 0, .int .i64 0, .int .i64 0]) rfl rfl rfl rfl rfl rfl HI.out.1 HI.out.2 rfl Hb4.out (Nat.le_of_ble_eq_true rfl) rfl ?_; intro w2 hb2 hk2); (try simp only [Act.put, List.setIfInBounds_toArray, List.set_cons_zero, List.set_cons_succ])))
  have q0 := (blk_cell hb2 0).trans rfl
  have q1 := (blk_cell hb2 1).trans rfl
  have q2 := (blk_cell hb2 2).trans rfl
  have q3 := (blk_cell hb2 3).trans rfl
  refine bodyPost_ret (v := .tuple #[Z85, .int .i64 1]) (by rw [results_cell_tmp rfl]; go_simp; rfl) rfl ?_
  exact ⟨rfl, hk1.own hk2 hg4⟩
set_option maxHeartbeats 1000000 in
theorem no_Asked {p : Value} {w : World} (h : NoEng p w) (q : Int) : Calls Tryd.prog 20 #[p, .int .i64 q] w fun e w' => ∃ A c, e = .returned (.tuple #[.slice A 0 c, .int .i64 1]) ∧ Keeps Nob w w' := by
  obtain ⟨i85, hi85, hs85⟩ := info85
  have HI := Lib.hid (And.intro hi85 hs85)
  have H := Lib.hid (no_found h q)
  clear h hi85 hs85
  go_enter Tryd.func20, Tryd.ntmps20
  go_wp2_with (first
    | (go_at_call 41; go_must (refine H.out.mono ?_; rintro e w1 ⟨rfl, hk1⟩; unfold Z85))
    | ((with_reducible refine at_dst (N := 6) rfl ?_); go_must (refine ev_alloc rfl rfl zero85 rfl ?_; intro g6 w2 hg6 hl6 hb6 hk2); have Hb6 := Lib.hid hb6; clear hb6; (try simp only [Act.put, List.setIfInBounds_toArray, List.set_cons_zero, List.set_cons_succ]))
    | ((with_reducible refine at_store (t := 85) rfl ?_); go_must (refine ev_store (cs' := #[.int .i64 0, .slice none 0 0, .int .i64 0, .int .i64 0]) rfl rfl rfl rfl rfl rfl HI.out.1 HI.out.2 rfl Hb6.out (Nat.le_of_ble_eq_true rfl) rfl ?_; intro w3 hb3 hk3); have q1 := (blk_cell hb3 1).trans rfl; clear hb3; (try simp only [Act.put, List.setIfInBounds_toArray, List.set_cons_zero, List.set_cons_succ]))
    | (go_at_call 42; go_must (refine (clone_any [] w3 (fun _ => True) (.slice none 0 0) (nil_ints _ _) (by decide)).mono ?_; rintro e w4 ⟨v', rfl, hk4, hv4⟩; obtain ⟨A, c, rfl, -, -⟩ := hv4)))
  go_ret2
  exact ⟨A, c, rfl, ((hk1.trans hk2 (fun _ _ h => h)).own hk3 (by have := hk1.size; omega)).trans hk4 (fun _ _ h => h)⟩
set_option maxHeartbeats 1000000 in
theorem no_When {p : Value} {w : World} (h : NoEng p w) (q : Int) : Calls Tryd.prog 21 #[p, .int .i64 q] w fun e w' => e = .returned (.tuple #[.int .i64 0, .int .i64 0, .int .i64 1]) ∧ Keeps Nob w w' := by
  obtain ⟨i85, hi85, hs85⟩ := info85
  have HI := Lib.hid (And.intro hi85 hs85)
  have H := Lib.hid (no_found h q)
  clear h hi85 hs85
  go_enter Tryd.func21, Tryd.ntmps21
  go_wp2_with (first
    | (go_at_call 41; go_must (refine H.out.mono ?_; rintro e w1 ⟨rfl, hk1⟩; unfold Z85))
    | ((with_reducible refine at_dst (N := 7) rfl ?_); go_must (refine ev_alloc rfl rfl zero85 rfl ?_; intro g7 w2 hg7 hl7 hb7 hk2); have Hb7 := Lib.hid hb7; clear hb7; (try simp only [Act.put, List.setIfInBounds_toArray, List.set_cons_zero, List.set_cons_succ]))
    | ((with_reducible refine at_store (t := 85) rfl ?_); go_must (refine ev_store (cs' := #[.int .i64 0, .slice none 0 0, .int .i64 0, .int .i64 0]) rfl rfl rfl rfl rfl rfl HI.out.1 HI.out.2 rfl Hb7.out (Nat.le_of_ble_eq_true rfl) rfl ?_; intro w3 hb3 hk3); have q2 := (blk_cell hb3 2).trans rfl; have q3 := (blk_cell hb3 3).trans rfl; clear hb3; (try simp only [Act.put, List.setIfInBounds_toArray, List.set_cons_zero, List.set_cons_succ])))
  refine wp_region_perm [(0, true), (1, true), (2, true), (3, true), (4, true), (5, true), (6, true), (7, true)] (fun w' => w'.cell? ⟨g7, 2, none⟩ = some (.int .i64 0) ∧ w'.cell? ⟨g7, 3, none⟩ = some (.int .i64 0)) rfl (by kernel_rfl) (by kernel_rfl) (by decide) (fun c a d v w h => by cases d <;> exact h) ⟨q2, q3⟩ ?_
  refine perm_q (v := ?v1_0) (some 15) rfl rfl rfl ?q1_0 ?h1_0; (case q1_0 => (intro w' hS; obtain ⟨s1, s2⟩ := hS; first | (go_simp; done) | (go_simp; rfl))); (try simp only [Act.put, List.setIfInBounds_toArray, List.set_cons_zero, List.set_cons_succ])
  refine perm_q (v := ?v1_1) (some 16) rfl rfl rfl ?q1_1 ?h1_1; (case q1_1 => (intro w' hS; obtain ⟨s1, s2⟩ := hS; first | (go_simp; done) | (go_simp; rfl))); (try simp only [Act.put, List.setIfInBounds_toArray, List.set_cons_zero, List.set_cons_succ])
  refine perm_q (v := ?v1_2) (some 17) rfl rfl rfl ?q1_2 ?h1_2; (case q1_2 => (intro w' hS; obtain ⟨s1, s2⟩ := hS; first | (go_simp; done) | (go_simp; rfl))); (try simp only [Act.put, List.setIfInBounds_toArray, List.set_cons_zero, List.set_cons_succ])
  refine perm_q (v := ?v1_3) (some 18) rfl rfl rfl ?q1_3 ?h1_3; (case q1_3 => (intro w' hS; obtain ⟨s1, s2⟩ := hS; first | (go_simp; done) | (go_simp; rfl))); (try simp only [Act.put, List.setIfInBounds_toArray, List.set_cons_zero, List.set_cons_succ])
  refine perm_q (v := ?v1_4) (some 19) rfl rfl rfl ?q1_4 ?h1_4; (case q1_4 => (intro w' hS; obtain ⟨s1, s2⟩ := hS; first | (go_simp; done) | (go_simp; rfl))); (try simp only [Act.put, List.setIfInBounds_toArray, List.set_cons_zero, List.set_cons_succ])
  refine perm_q (v := ?v1_5) (some 4) rfl rfl rfl ?q1_5 ?h1_5; (case q1_5 => (intro w' hS; obtain ⟨s1, s2⟩ := hS; first | (go_simp; done) | (go_simp; rfl))); (try simp only [Act.put, List.setIfInBounds_toArray, List.set_cons_zero, List.set_cons_succ])
  refine perm_q (v := ?v1_6) (some 5) rfl rfl rfl ?q1_6 ?h1_6; (case q1_6 => (intro w' hS; obtain ⟨s1, s2⟩ := hS; first | (go_simp; done) | (go_simp; rfl))); (try simp only [Act.put, List.setIfInBounds_toArray, List.set_cons_zero, List.set_cons_succ])
  refine perm_q (v := ?v1_7) (some 6) rfl rfl rfl ?q1_7 ?h1_7; (case q1_7 => (intro w' hS; obtain ⟨s1, s2⟩ := hS; first | (go_simp; done) | (go_simp; rfl))); (try simp only [Act.put, List.setIfInBounds_toArray, List.set_cons_zero, List.set_cons_succ])
  refine perm_nil ?_
  go_wp2
  go_ret3
  exact ⟨rfl, ((hk1.trans hk2 (fun _ _ h => h)).own hk3 (by have := hk1.size; omega)).drew⟩
set_option maxHeartbeats 2000000 in
theorem no_Ask {p : Value} {w : World} (h : NoEng p w) (q most : Int) : Calls Tryd.prog 18 #[p, .int .i64 q, .int .i64 most] w fun e w' => e = .returned (.tuple #[.int .i64 0, .slice none 0 0, .int .i64 1]) ∧ Keeps Nob w w' := by
  obtain ⟨i3, hi3, hs3⟩ := infoS3
  obtain ⟨i23, hi23, hs23⟩ := info23
  obtain ⟨i25, hi25, hs25⟩ := info25
  have HI := Lib.hid (And.intro (And.intro hi3 hs3) (And.intro (And.intro hi23 hs23) (And.intro hi25 hs25)))
  have H := Lib.hid h
  have hmf : ∀ (fn : Fn) (first cap : Array Value) (w : World), (Instr.makeFunc fn first cap).run Tryd.prog w = .ok (.func fn first cap) w := fun _ _ _ _ => rfl
  clear hi3 hs3 hi23 hs23 hi25 hs25 h
  go_enter_defers Tryd.func18, Tryd.ntmps18
  go_wp2_with (first
    | ((with_reducible refine at_dst (N := 6) rfl ?_); go_must (refine ev_alloc rfl rfl zero3 rfl ?_; intro g6 w1 hg6 hl6 hb6 hk1); have Hb6 := Lib.hid hb6; clear hb6; (try simp only [Act.put, List.setIfInBounds_toArray, List.set_cons_zero, List.set_cons_succ]))
    | ((with_reducible refine at_dst (N := 7) rfl ?_); go_must (refine ev_alloc rfl rfl zero23 rfl ?_; intro g7 w2 hg7 hl7 hb7 hk2); have Hb7 := Lib.hid hb7; clear hb7; (try simp only [Act.put, List.setIfInBounds_toArray, List.set_cons_zero, List.set_cons_succ]))
    | ((with_reducible refine at_dst (N := 8) rfl ?_); go_must (refine ev_alloc rfl rfl zero25 rfl ?_; intro g8 w3 hg8 hl8 hb8 hk3); have Hb8 := Lib.hid hb8; clear hb8; (try simp only [Act.put, List.setIfInBounds_toArray, List.set_cons_zero, List.set_cons_succ]))
    | (go_at_call 38; go_must (refine (no_is (((H.out.keep hk1).keep hk2).keep hk3) q).mono ?_; rintro e w' ⟨rfl, rfl⟩))
    | ((with_reducible refine at_store (t := 3) rfl ?_); go_must (refine ev_store (cs' := #[.int .i64 0]) rfl rfl rfl rfl rfl rfl HI.out.1.1 HI.out.1.2 rfl (hk3.blk (hk2.blk Hb6.out id) id) (Nat.le_of_ble_eq_true rfl) rfl ?_; intro w4 hb4 hk4); (try simp only [Act.put, List.setIfInBounds_toArray, List.set_cons_zero, List.set_cons_succ]))
    | ((with_reducible refine at_store (t := 23) rfl ?_); go_must (refine ev_store (cs' := #[.slice none 0 0]) rfl rfl rfl rfl rfl rfl HI.out.2.1.1 HI.out.2.1.2 rfl (hk4.blk (hk3.blk Hb7.out id) (by show g7 ≠ g6; omega)) (Nat.le_of_ble_eq_true rfl) rfl ?_; intro w5 hb5 hk5); (try simp only [Act.put, List.setIfInBounds_toArray, List.set_cons_zero, List.set_cons_succ]))
    | ((with_reducible refine at_store (t := 25) rfl ?_); go_must (refine ev_store (cs' := #[.int .i64 1]) rfl rfl rfl rfl rfl rfl HI.out.2.2.1 HI.out.2.2.2 rfl (hk5.blk (hk4.blk Hb8.out (by show g8 ≠ g6; have := hk2.size; omega)) (by show g8 ≠ g7; omega)) (Nat.le_of_ble_eq_true rfl) rfl ?_; intro w6 hb6' hk6); (try simp only [Act.put, List.setIfInBounds_toArray, List.set_cons_zero, List.set_cons_succ])))
  have z1 := hk1.size
  have z2 := hk2.size
  have z3 := hk3.size
  have r6 : w6.cell? ⟨g6, 0, none⟩ = some (.int .i64 0) := (blk_cell (hk6.blk (hk5.blk hb4 (by show g6 ≠ g7; omega)) (by show g6 ≠ g8; omega)) 0).trans rfl
  have r7 : w6.cell? ⟨g7, 0, none⟩ = some (.slice none 0 0) := (blk_cell (hk6.blk hb5 (by show g7 ≠ g8; omega)) 0).trans rfl
  have r8 : w6.cell? ⟨g8, 0, none⟩ = some (.int .i64 1) := (blk_cell hb6' 0).trans rfl
  (try simp only [Exit.inBlock, Exit.then])
  refine ⟨_, results_cells3 (x := .int .i64 0) (y := .slice none 0 0) (z := .int .i64 1) rfl _ _ rfl rfl rfl (by go_simp) (by go_simp) (by go_simp), rfl, ?_⟩
  exact (((((hk1.trans hk2 (fun _ _ h => h)).trans hk3 (fun _ _ h => h)).own hk4 (by omega)).own hk5 (by omega)).own hk6 (by omega))
end Go.Proofs.QW
