/-
  The laws' own small functions (same, example), in memory. No condition.
-/
import Derived.Test.YtohpkolkagddiaaDoorQ15
namespace Go.Proofs.QW
open Go.RowKit Go.Proofs.KL Go.Proofs.QM
set_option maxRecDepth 100000
set_option linter.unusedSimpArgs false
set_option linter.unusedVariables false

theorem take_eq_of {xs ys : List Int} {k : Nat} (hx : k < xs.length) (hy : k < ys.length) (h : xs.take k = ys.take k) (e : xs.getD k 0 = ys.getD k 0) : xs.take (k + 1) = ys.take (k + 1) := by
  rw [← take_snoc hx, ← take_snoc hy, h, e]
set_option maxHeartbeats 2000000 in
/-- same. -/
theorem same_any (xs ys : List Int) (w : World) (X X' : Nat → Prop) (av bv : Value) (hx : IntsX w X av xs) (hy : IntsX w X' bv ys) (hxl : xs.length ≤ 1000000) :
    Calls Tryd.prog 32 #[av, bv] w fun e w' => e = .returned (.bool (decide (xs = ys))) ∧ Keeps Nob w w' := by
  obtain ⟨A, c, rfl, -, hxc⟩ := id hx
  obtain ⟨B, d, rfl, -, hyc⟩ := id hy
  have Hx := Lib.hid hx
  have Hy := Lib.hid hy
  have Hxc := Lib.hid hxc
  have Hyc := Lib.hid hyc
  clear hx hy hxc hyc
  obtain ⟨t, ht⟩ : ∃ t, decide (xs = ys) = t := ⟨_, rfl⟩
  rw [ht]
  have Ht := Lib.hid ht
  clear ht
  by_cases hl : xs.length = ys.length
  · have Hl := Lib.hid hl
    have hlb : ((xs.length : Int) != (ys.length : Int)) = false := by simp [hl]
    clear hl
    go_enter Tryd.func32, Tryd.ntmps32
    go_wp2
    go_loopw [13] (fun v wr => ∃ k : Nat, v = .int .i64 k ∧ k ≤ xs.length ∧ Hid (Keeps Nob w wr) ∧ Hid (xs.take k = ys.take k))
      (fun v _ => xs.length - (intOf v).toNat)
    case atStart => exact ⟨0, rfl, Nat.zero_le _, Lib.hid (Keeps.refl _ _), Lib.hid (by simp)⟩
    case round =>
      obtain ⟨k, rfl, hk, hkeep, hst⟩ := hrel
      by_cases hlt : k < xs.length
      · have hlt2 : k < ys.length := by have := Hl.out; omega
        obtain ⟨b, o, rfl, _, e0⟩ := Hxc.out k hlt
        obtain ⟨b2, o2, rfl, _, e1⟩ := Hyc.out k hlt2
        have e0 := hkeep.out.cell e0 id
        have e1 := hkeep.out.cell e1 id
        have Hn := Lib.hid (fun e => take_eq_of hlt hlt2 hst.out e)
        have Hne : Hid (xs.getD k 0 ≠ ys.getD k 0 → xs ≠ ys) := Lib.hid (fun h e => h (by rw [e]))
        generalize xs.getD k 0 = x at *
        generalize ys.getD k 0 = y at *
        have hi : (k : Int) < ys.length := by omega
        go_wp2
        refine wp_region_perm [(0, true), (1, true), (2, true), (3, true), (4, true), (5, true), (6, true), (7, true), (8, true)] (fun w' => w'.cell? ⟨b, o + k, none⟩ = some (.int .i64 x) ∧ w'.cell? ⟨b2, o2 + k, none⟩ = some (.int .i64 y)) rfl (by kernel_rfl) (by kernel_rfl) (by decide) (fun c a d v w h => by cases d <;> exact h) ⟨e0, e1⟩ ?_
        refine perm_q (v := ?v1_0) (some 16) rfl rfl rfl ?q1_0 ?h1_0; (case q1_0 => (intro w' hS; obtain ⟨s1, s2⟩ := hS; first | (go_simp; done) | (go_simp; rfl))); (try simp only [Act.put, List.setIfInBounds_toArray, List.set_cons_zero, List.set_cons_succ])
        refine perm_q (v := ?v1_1) (some 17) rfl rfl rfl ?q1_1 ?h1_1; (case q1_1 => (intro w' hS; obtain ⟨s1, s2⟩ := hS; first | (go_simp; done) | (go_simp; rfl))); (try simp only [Act.put, List.setIfInBounds_toArray, List.set_cons_zero, List.set_cons_succ])
        refine perm_q (v := ?v1_2) (some 18) rfl rfl rfl ?q1_2 ?h1_2; (case q1_2 => (intro w' hS; obtain ⟨s1, s2⟩ := hS; first | (go_simp; done) | (go_simp; rfl))); (try simp only [Act.put, List.setIfInBounds_toArray, List.set_cons_zero, List.set_cons_succ])
        refine perm_q (v := ?v1_3) (some 19) rfl rfl rfl ?q1_3 ?h1_3; (case q1_3 => (intro w' hS; obtain ⟨s1, s2⟩ := hS; first | (go_simp; done) | (go_simp; rfl))); (try simp only [Act.put, List.setIfInBounds_toArray, List.set_cons_zero, List.set_cons_succ])
        refine perm_q (v := ?v1_4) (some 20) rfl rfl rfl ?q1_4 ?h1_4; (case q1_4 => (intro w' hS; obtain ⟨s1, s2⟩ := hS; first | (go_simp; done) | (go_simp; rfl))); (try simp only [Act.put, List.setIfInBounds_toArray, List.set_cons_zero, List.set_cons_succ])
        refine perm_q (v := ?v1_5) (some 21) rfl rfl rfl ?q1_5 ?h1_5; (case q1_5 => (intro w' hS; obtain ⟨s1, s2⟩ := hS; first | (go_simp; done) | (go_simp; rfl))); (try simp only [Act.put, List.setIfInBounds_toArray, List.set_cons_zero, List.set_cons_succ])
        refine perm_q (v := ?v1_6) (some 22) rfl rfl rfl ?q1_6 ?h1_6; (case q1_6 => (intro w' hS; obtain ⟨s1, s2⟩ := hS; first | (go_simp; done) | (go_simp; rfl))); (try simp only [Act.put, List.setIfInBounds_toArray, List.set_cons_zero, List.set_cons_succ])
        refine perm_q (v := ?v1_7) (some 23) rfl rfl rfl ?q1_7 ?h1_7; (case q1_7 => (intro w' hS; obtain ⟨s1, s2⟩ := hS; first | (go_simp; done) | (go_simp; rfl))); (try simp only [Act.put, List.setIfInBounds_toArray, List.set_cons_zero, List.set_cons_succ])
        refine perm_q (v := ?v1_8) (some 24) rfl rfl rfl ?q1_8 ?h1_8; (case q1_8 => (intro w' hS; obtain ⟨s1, s2⟩ := hS; first | (go_simp; done) | (go_simp; rfl))); (try simp only [Act.put, List.setIfInBounds_toArray, List.set_cons_zero, List.set_cons_succ])
        refine perm_nil ?_
        by_cases hxy : x = y
        · have hb : (x != y) = false := by simp [hxy]
          have H2 := Lib.hid (Hn.out hxy)
          clear hxy
          go_wp2
          go_roundw
          case rel => exact ⟨k + 1, by go_num, by omega, Lib.hid hkeep.out.drew, H2⟩
          case measure => simp [intOf]; omega
        · have hb : (x != y) = true := by simpa using hxy
          have hf : t = false := by rw [← Ht.out]; exact decide_eq_false (Hne.out hxy)
          clear hxy
          go_wp2
          go_ret
          exact ⟨by rw [hf]; rfl, hkeep.out.drew⟩
      · have hk' : k = xs.length := by omega
        subst hk'
        have hf : t = true := by
          rw [← Ht.out]
          have := hst.out
          rw [List.take_length, Hl.out, List.take_length] at this
          exact decide_eq_true this
        go_wp2
        go_ret
        exact ⟨by rw [hf]; rfl, hkeep.out⟩
  · have hlb : ((xs.length : Int) != (ys.length : Int)) = true := by simp; omega
    have hf : t = false := by rw [← Ht.out]; exact decide_eq_false (fun e => hl (by rw [e]))
    clear hl
    go_enter Tryd.func32, Tryd.ntmps32
    go_wp2
    go_ret
    exact ⟨by rw [hf]; rfl, Keeps.refl _ _⟩
def exampleR : List QRule := [⟨1, 0, []⟩, ⟨1, 0, []⟩, ⟨2, 10, [0, 1]⟩, ⟨6, 1, [2]⟩]
set_option maxHeartbeats 2000000 in
/-- example. -/
theorem example_any (w : World) : Calls Tryd.prog 36 #[] w fun e w' => ∃ v, e = .returned v ∧ Keeps Nob w w' ∧ RulesX w' (fun k => w.heap.size ≤ k ∧ k < w'.heap.size) v exampleR := by
  go_enter Tryd.func36, Tryd.ntmps36
  go_wp2_with (first
    | ((with_reducible refine at_dst (N := 3) rfl ?_); go_must (refine ev_slice (cs := #[.int .i64 0, .int .i64 1]) (t := 3) (n := 2) (c := 2) rfl (by first | (go_simp; done) | (go_simp; rfl)) ?_; intro g1 w1 hg1 hl1 hb1 hk1); have Hb1 := Lib.hid hb1; clear hb1; (try simp only [Act.put, List.setIfInBounds_toArray, List.set_cons_zero, List.set_cons_succ]))
    | ((with_reducible refine at_dst (N := 5) rfl ?_); go_must (refine ev_slice (cs := #[.int .i64 2]) (t := 3) (n := 1) (c := 1) rfl (by first | (go_simp; done) | (go_simp; rfl)) ?_; intro g2 w2 hg2 hl2 hb2 hk2); have Hb2 := Lib.hid hb2; clear hb2; (try simp only [Act.put, List.setIfInBounds_toArray, List.set_cons_zero, List.set_cons_succ]))
    | ((with_reducible refine at_dst (N := 7) rfl ?_); go_must (refine ev_slice (cs := #[.int .i64 1, .int .i64 0, .slice none 0 0, .int .i64 1, .int .i64 0, .slice none 0 0, .int .i64 2, .int .i64 10, .slice (some ⟨g1, 0, none⟩) 2 2, .int .i64 6, .int .i64 1, .slice (some ⟨g2, 0, none⟩) 1 1]) (t := 72) (n := 4) (c := 4) rfl (by first | (go_simp; done) | (go_simp; rfl)) ?_; intro g3 w3 hg3 hl3 hb3 hk3); have Hb3 := Lib.hid hb3; clear hb3; (try simp only [Act.put, List.setIfInBounds_toArray, List.set_cons_zero, List.set_cons_succ])))
  go_ret
  have z1 := hk1.size
  have z2 := hk2.size
  have z3 := hk3.size
  have b1 := hk3.blk (hk2.blk Hb1.out id) id
  have b2 := hk3.blk Hb2.out id
  refine ⟨_, rfl, (hk1.trans hk2 (fun _ _ h => h)).trans hk3 (fun _ _ h => h), ?_⟩
  refine ⟨some ⟨g3, 0, none⟩, 4, rfl, by decide, fun i hi => ?_⟩
  have hi : i < 4 := hi
  have c := blk_cell Hb3.out
  have hX : w.heap.size ≤ g3 ∧ g3 < w3.heap.size := ⟨by omega, hl3⟩
  match i, hi with
  | 0, _ => exact ⟨g3, 0, _, rfl, hX, (c _).trans rfl, (c _).trans rfl, (c _).trans rfl, nil_ints _ _⟩
  | 1, _ => exact ⟨g3, 0, _, rfl, hX, (c _).trans rfl, (c _).trans rfl, (c _).trans rfl, nil_ints _ _⟩
  | 2, _ =>
    refine ⟨g3, 0, _, rfl, hX, (c _).trans rfl, (c _).trans rfl, (c _).trans rfl, some ⟨g1, 0, none⟩, 2, rfl, Nat.le_refl _, fun j hj => ⟨g1, 0, rfl, ⟨by omega, by omega⟩, ?_⟩⟩
    have hj : j < 2 := hj
    match j, hj with
    | 0, _ => exact (blk_cell b1 _).trans rfl
    | 1, _ => exact (blk_cell b1 _).trans rfl
  | 3, _ =>
    refine ⟨g3, 0, _, rfl, hX, (c _).trans rfl, (c _).trans rfl, (c _).trans rfl, some ⟨g2, 0, none⟩, 1, rfl, Nat.le_refl _, fun j hj => ⟨g2, 0, rfl, ⟨by omega, by omega⟩, ?_⟩⟩
    have hj : j < 1 := hj
    match j, hj with
    | 0, _ => exact (blk_cell b2 _).trans rfl
end Go.Proofs.QW
