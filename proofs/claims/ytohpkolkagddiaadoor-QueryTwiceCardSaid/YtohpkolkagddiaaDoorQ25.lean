/-
  The answer of a rule for what it got (the specification's Answer), in memory: the model's 'answerOf'. Condition: what it got is within bounds.
-/
import Derived.Test.YtohpkolkagddiaaDoorQ12
namespace Go.Proofs.QW
open Go.RowKit Go.Proofs.KL Go.Proofs.QM
set_option maxRecDepth 100000
set_option linter.unusedSimpArgs false
set_option linter.unusedVariables false

set_option maxHeartbeats 2000000 in
theorem Answer_sum (n : Int) (av sv : Value) (asks got : List Int) (w : World) (X X' : Nat → Prop) (ha : IntsX w X' av asks) (hx : IntsX w X sv got) (hl : got.length ≤ 12) (hr : ∀ v ∈ got, 0 ≤ v ∧ v ≤ 1048576) (hn1 : 1 ≤ n) (hn2 : n ≤ 1048576) :
    Calls Tryd.prog 64 #[.agg #[.int .i64 2, .int .i64 n, av], sv] w fun e w' => e = .returned (.int .i64 (got.foldl (fun m x => (m + x) % n) 0)) ∧ Keeps Nob w w' := by
  obtain ⟨aA, ac, rfl, -, -⟩ := ha
  obtain ⟨A, c, rfl, -, hcell⟩ := id hx
  have Hcell := Lib.hid hcell
  have Hr := Lib.hid hr
  clear hx hcell hr
  obtain ⟨t, ht⟩ : ∃ t, got.foldl (fun m x => (m + x) % n) 0 = t := ⟨_, rfl⟩
  rw [ht]
  have Ht := Lib.hid ht
  clear ht
  go_enter Tryd.func64, Tryd.ntmps64
  go_wp2_with ((with_reducible refine at_dst (N := 2) rfl ?_); go_must (refine ev_box (cs := #[.int .i64 2, .int .i64 n, .slice aA asks.length ac]) rfl rfl rfl ?_; intro g2 w1 hg2 hl2 hb2 hk2); have Hb2 := Lib.hid hb2; have f0 := (blk_cell hb2 0).trans rfl; have f1 := (blk_cell hb2 1).trans rfl; clear hb2; (try simp only [Act.put, List.setIfInBounds_toArray, List.set_cons_zero, List.set_cons_succ]))
  have HK := Lib.hid hk2
  clear hk2 f0
  go_loopw [5, 14] (fun sm v wr => ∃ (k : Nat) (m : Int), v = .int .i64 k ∧ sm = .int .i64 m ∧ k ≤ got.length ∧ wr = w1 ∧ 0 ≤ m ∧ m < n ∧ Hid ((got.drop k).foldl (fun m x => (m + x) % n) m = t))
    (fun _ v _ => got.length - (intOf v).toNat)
  case atStart => exact ⟨0, 0, rfl, rfl, Nat.zero_le _, rfl, Int.le_refl _, by omega, Ht⟩
  case round =>
    obtain ⟨k, m, rfl, rfl, hk, rfl, m0, m1, hst⟩ := hrel
    by_cases hlt : k < got.length
    · obtain ⟨b, o, rfl, _, hcw⟩ := Hcell.out k hlt
      have hcw := HK.out.cell hcw id
      have hx := Hr.out (got.getD k 0) (getD_mem hlt)
      have hd := Lib.hid (drop_getD hlt)
      generalize got.getD k 0 = x at *
      have hw : IntKind.i64.wrap (m + x) = m + x := IntWalk.i64_in _ (by omega)
      have hn0 : ¬ n = 0 := by omega
      have htm : (m + x).tmod n = (m + x) % n := Int.tmod_eq_emod_of_nonneg (by omega)
      have hw2 : IntKind.i64.wrap ((m + x) % n) = (m + x) % n := IntWalk.i64_in _ (by have h1 := Int.emod_nonneg (m + x) hn0; have h2 := Int.emod_lt_of_pos (m + x) (by omega : 0 < n); omega)
      go_wp2
      go_roundw
      case rel =>
        have h1 := Int.emod_nonneg (m + x) hn0
        have h2 := Int.emod_lt_of_pos (m + x) (by omega : 0 < n)
        refine ⟨k + 1, (m + x) % n, by go_num, rfl, by omega, by first | rfl | trivial, h1, h2, Lib.hid ?_⟩
        have h := hst.out
        rw [hd.out, List.foldl_cons] at h
        exact h
      case measure => simp [intOf]; omega
    · have hk' : k = got.length := by omega
      subst hk'
      have hf := Lib.hid (show t = m by rw [← hst.out, List.drop_length]; rfl)
      go_wp2
      go_ret
      exact ⟨by rw [hf.out]; rfl, HK.out⟩
set_option maxHeartbeats 2000000 in
theorem Answer_first (n : Int) (av sv : Value) (asks got : List Int) (w : World) (X X' : Nat → Prop) (ha : IntsX w X' av asks) (hx : IntsX w X sv got) (hl : got.length ≤ 12) :
    Calls Tryd.prog 64 #[.agg #[.int .i64 4, .int .i64 n, av], sv] w fun e w' => e = .returned (.int .i64 (got.getLastD 0)) ∧ Keeps Nob w w' := by
  obtain ⟨aA, ac, rfl, -, -⟩ := ha
  obtain ⟨A, c, rfl, -, hcell⟩ := id hx
  by_cases h0 : got.length = 0
  · obtain rfl : got = [] := List.eq_nil_of_length_eq_zero h0
    clear hx hcell
    go_enter Tryd.func64, Tryd.ntmps64
    go_wp2_with ((with_reducible refine at_dst (N := 2) rfl ?_); go_must (refine ev_box (cs := #[.int .i64 4, .int .i64 n, .slice aA asks.length ac]) rfl rfl rfl ?_; intro g2 w1 hg2 hl2 hb2 hk2); have f0 := (blk_cell hb2 0).trans rfl; clear hb2; (try simp only [Act.put, List.setIfInBounds_toArray, List.set_cons_zero, List.set_cons_succ]))
    go_ret
    exact ⟨rfl, hk2⟩
  · obtain ⟨b, o, rfl, _, hcw⟩ := hcell (got.length - 1) (by omega)
    have hv : got.getLastD 0 = got.getD (got.length - 1) 0 := by
      have hne : got ≠ [] := fun e => h0 (by rw [e]; rfl)
      rw [List.getLastD_eq_getLast?, List.getLast?_eq_getElem?, List.getD_eq_getElem?_getD]
    rw [hv]
    generalize got.getD (got.length - 1) 0 = x at *
    obtain ⟨gl, hgl⟩ : ∃ g, got.length = g + 1 := ⟨got.length - 1, by omega⟩
    rw [show got.length - 1 = gl by omega] at hcw
    rw [hgl]
    have Hcw := Lib.hid hcw
    have hgb : gl ≤ 12 := by omega
    have hwr : wrap64 (gl : Int) = gl := by unfold wrap64; omega
    clear hx hcell hv hgl h0 hcw
    have hi : ((gl + 1 : Nat) : Int) - 1 = gl := by omega
    have hz : (((gl + 1 : Nat) : Int) == 0) = false := by simp; omega
    go_enter Tryd.func64, Tryd.ntmps64
    go_wp2_with ((with_reducible refine at_dst (N := 2) rfl ?_); go_must (refine ev_box (cs := #[.int .i64 4, .int .i64 n, .slice aA asks.length ac]) rfl rfl rfl ?_; intro g2 w1 hg2 hl2 hb2 hk2); have f0 := (blk_cell hb2 0).trans rfl; have hcw1 := hk2.cell Hcw.out id; clear hb2; (try simp only [Act.put, List.setIfInBounds_toArray, List.set_cons_zero, List.set_cons_succ]))
    go_ret
    exact ⟨rfl, hk2⟩
set_option maxHeartbeats 2000000 in
theorem Answer_less (n x y : Int) (av sv : Value) (asks : List Int) (w : World) (X X' : Nat → Prop) (ha : IntsX w X' av asks) (hx : IntsX w X sv [x, y]) :
    Calls Tryd.prog 64 #[.agg #[.int .i64 5, .int .i64 n, av], sv] w fun e w' => e = .returned (.int .i64 (if x < y then 1 else 0)) ∧ Keeps Nob w w' := by
  obtain ⟨aA, ac, rfl, -, -⟩ := ha
  obtain ⟨A, c, rfl, -, hcell⟩ := id hx
  obtain ⟨b, o, rfl, _, c0⟩ := hcell 0 (by simp)
  obtain ⟨b', o', h1, _, c1⟩ := hcell 1 (by simp)
  injection h1 with h1
  injection h1 with h1 h2
  subst h1; subst h2
  have c0 : w.cell? ⟨b, o, none⟩ = some (.int .i64 x) := c0
  have c1 : w.cell? ⟨b, o + 1, none⟩ = some (.int .i64 y) := c1
  clear hx hcell
  obtain ⟨t, ht⟩ : ∃ t : Int, (if x < y then 1 else 0) = t := ⟨_, rfl⟩
  rw [ht]
  have Ht := Lib.hid ht
  clear ht
  go_enter Tryd.func64, Tryd.ntmps64
  go_wp2_with ((with_reducible refine at_dst (N := 2) rfl ?_); go_must (refine ev_box (cs := #[.int .i64 5, .int .i64 n, .slice aA asks.length ac]) rfl rfl rfl ?_; intro g2 w1 hg2 hl2 hb2 hk2); have f0 := (blk_cell hb2 0).trans rfl; have c0 := hk2.cell c0 id; have c1 := hk2.cell c1 id; clear hb2; (try simp only [Act.put, List.setIfInBounds_toArray, List.set_cons_zero, List.set_cons_succ]))
  refine wp_region_perm [(0, true), (1, true), (2, true), (3, true), (4, true), (5, true), (6, true)] (fun w' => w'.cell? ⟨b, o, none⟩ = some (.int .i64 x) ∧ w'.cell? ⟨b, o + 1, none⟩ = some (.int .i64 y)) rfl (by kernel_rfl) (by kernel_rfl) (by decide) (fun c a d v w h => by cases d <;> exact h) ⟨c0, c1⟩ ?_
  refine perm_q (v := ?v1_0) (some 39) rfl rfl rfl ?q1_0 ?h1_0; (case q1_0 => (intro w' hS; obtain ⟨s1, s2⟩ := hS; first | (go_simp; done) | (go_simp; rfl))); (try simp only [Act.put, List.setIfInBounds_toArray, List.set_cons_zero, List.set_cons_succ])
  refine perm_q (v := ?v1_1) (some 40) rfl rfl rfl ?q1_1 ?h1_1; (case q1_1 => (intro w' hS; obtain ⟨s1, s2⟩ := hS; first | (go_simp; done) | (go_simp; rfl))); (try simp only [Act.put, List.setIfInBounds_toArray, List.set_cons_zero, List.set_cons_succ])
  refine perm_q (v := ?v1_2) (some 41) rfl rfl rfl ?q1_2 ?h1_2; (case q1_2 => (intro w' hS; obtain ⟨s1, s2⟩ := hS; first | (go_simp; done) | (go_simp; rfl))); (try simp only [Act.put, List.setIfInBounds_toArray, List.set_cons_zero, List.set_cons_succ])
  refine perm_q (v := ?v1_3) (some 42) rfl rfl rfl ?q1_3 ?h1_3; (case q1_3 => (intro w' hS; obtain ⟨s1, s2⟩ := hS; first | (go_simp; done) | (go_simp; rfl))); (try simp only [Act.put, List.setIfInBounds_toArray, List.set_cons_zero, List.set_cons_succ])
  refine perm_q (v := ?v1_4) (some 43) rfl rfl rfl ?q1_4 ?h1_4; (case q1_4 => (intro w' hS; obtain ⟨s1, s2⟩ := hS; first | (go_simp; done) | (go_simp; rfl))); (try simp only [Act.put, List.setIfInBounds_toArray, List.set_cons_zero, List.set_cons_succ])
  refine perm_q (v := ?v1_5) (some 44) rfl rfl rfl ?q1_5 ?h1_5; (case q1_5 => (intro w' hS; obtain ⟨s1, s2⟩ := hS; first | (go_simp; done) | (go_simp; rfl))); (try simp only [Act.put, List.setIfInBounds_toArray, List.set_cons_zero, List.set_cons_succ])
  refine perm_q (v := ?v1_6) (some 45) rfl rfl rfl ?q1_6 ?h1_6; (case q1_6 => (intro w' hS; obtain ⟨s1, s2⟩ := hS; first | (go_simp; done) | (go_simp; rfl))); (try simp only [Act.put, List.setIfInBounds_toArray, List.set_cons_zero, List.set_cons_succ])
  refine perm_nil ?_
  by_cases hlt : x < y
  · have hf := Lib.hid (show t = 1 by rw [← Ht.out, if_pos hlt])
    go_wp2
    go_ret
    exact ⟨by rw [hf.out]; rfl, hk2.drew⟩
  · have hf := Lib.hid (show t = 0 by rw [← Ht.out, if_neg hlt])
    go_wp2
    go_ret
    exact ⟨by rw [hf.out]; rfl, hk2.drew⟩
set_option maxHeartbeats 2000000 in
theorem Answer_step (n x : Int) (av sv : Value) (asks : List Int) (w : World) (X X' : Nat → Prop) (ha : IntsX w X' av asks) (hx : IntsX w X sv [x]) (x0 : 0 ≤ x) (x1 : x ≤ 1048576) (n0 : -1000 ≤ n) (n1 : n ≤ 1000) :
    Calls Tryd.prog 64 #[.agg #[.int .i64 6, .int .i64 n, av], sv] w fun e w' => e = .returned (.int .i64 (min (max (x + n) 0) 1048576)) ∧ Keeps Nob w w' := by
  obtain ⟨aA, ac, rfl, -, -⟩ := ha
  obtain ⟨A, c, rfl, -, hcell⟩ := id hx
  obtain ⟨b, o, rfl, _, c0⟩ := hcell 0 (by simp)
  have c0 : w.cell? ⟨b, o, none⟩ = some (.int .i64 x) := c0
  have hw : IntKind.i64.wrap (x + n) = x + n := IntWalk.i64_in _ (by omega)
  clear hx hcell
  obtain ⟨t, ht⟩ : ∃ t : Int, min (max (x + n) 0) 1048576 = t := ⟨_, rfl⟩
  rw [ht]
  have Ht := Lib.hid ht
  clear ht
  go_enter Tryd.func64, Tryd.ntmps64
  go_wp2_with ((with_reducible refine at_dst (N := 2) rfl ?_); go_must (refine ev_box (cs := #[.int .i64 6, .int .i64 n, .slice aA asks.length ac]) rfl rfl rfl ?_; intro g2 w1 hg2 hl2 hb2 hk2); have f0 := (blk_cell hb2 0).trans rfl; have f1 := (blk_cell hb2 1).trans rfl; have c0 := hk2.cell c0 id; clear hb2; (try simp only [Act.put, List.setIfInBounds_toArray, List.set_cons_zero, List.set_cons_succ]))
  refine wp_region_perm [(0, true), (1, true), (2, true), (3, true), (4, true), (5, true), (6, true), (7, true), (8, true)] (fun w' => w'.cell? ⟨b, o, none⟩ = some (.int .i64 x) ∧ w'.cell? ⟨g2, 1, none⟩ = some (.int .i64 n)) rfl (by kernel_rfl) (by kernel_rfl) (by decide) (fun c a d v w h => by cases d <;> exact h) ⟨c0, f1⟩ ?_
  refine perm_q (v := ?v2_0) (some 46) rfl rfl rfl ?q2_0 ?h2_0; (case q2_0 => (intro w' hS; obtain ⟨s1, s2⟩ := hS; first | (go_simp; done) | (go_simp; rfl))); (try simp only [Act.put, List.setIfInBounds_toArray, List.set_cons_zero, List.set_cons_succ])
  refine perm_q (v := ?v2_1) (some 47) rfl rfl rfl ?q2_1 ?h2_1; (case q2_1 => (intro w' hS; obtain ⟨s1, s2⟩ := hS; first | (go_simp; done) | (go_simp; rfl))); (try simp only [Act.put, List.setIfInBounds_toArray, List.set_cons_zero, List.set_cons_succ])
  refine perm_q (v := ?v2_2) (some 48) rfl rfl rfl ?q2_2 ?h2_2; (case q2_2 => (intro w' hS; obtain ⟨s1, s2⟩ := hS; first | (go_simp; done) | (go_simp; rfl))); (try simp only [Act.put, List.setIfInBounds_toArray, List.set_cons_zero, List.set_cons_succ])
  refine perm_q (v := ?v2_3) (some 49) rfl rfl rfl ?q2_3 ?h2_3; (case q2_3 => (intro w' hS; obtain ⟨s1, s2⟩ := hS; first | (go_simp; done) | (go_simp; rfl))); (try simp only [Act.put, List.setIfInBounds_toArray, List.set_cons_zero, List.set_cons_succ])
  refine perm_q (v := ?v2_4) (some 50) rfl rfl rfl ?q2_4 ?h2_4; (case q2_4 => (intro w' hS; obtain ⟨s1, s2⟩ := hS; first | (go_simp; done) | (go_simp; rfl))); (try simp only [Act.put, List.setIfInBounds_toArray, List.set_cons_zero, List.set_cons_succ])
  refine perm_q (v := ?v2_5) (some 51) rfl rfl rfl ?q2_5 ?h2_5; (case q2_5 => (intro w' hS; obtain ⟨s1, s2⟩ := hS; first | (go_simp; done) | (go_simp; rfl))); (try simp only [Act.put, List.setIfInBounds_toArray, List.set_cons_zero, List.set_cons_succ])
  refine perm_q (v := ?v2_6) (some 52) rfl rfl rfl ?q2_6 ?h2_6; (case q2_6 => (intro w' hS; obtain ⟨s1, s2⟩ := hS; first | (go_simp; done) | (go_simp; rfl))); (try simp only [Act.put, List.setIfInBounds_toArray, List.set_cons_zero, List.set_cons_succ])
  refine perm_q (v := ?v2_7) (some 53) rfl rfl rfl ?q2_7 ?h2_7; (case q2_7 => (intro w' hS; obtain ⟨s1, s2⟩ := hS; first | (go_simp; done) | (go_simp; rfl))); (try simp only [Act.put, List.setIfInBounds_toArray, List.set_cons_zero, List.set_cons_succ])
  refine perm_q (v := ?v2_8) (some 4) rfl rfl rfl ?q2_8 ?h2_8; (case q2_8 => (intro w' hS; obtain ⟨s1, s2⟩ := hS; first | (go_simp; done) | (go_simp; rfl))); (try simp only [Act.put, List.setIfInBounds_toArray, List.set_cons_zero, List.set_cons_succ])
  refine perm_nil ?_
  by_cases h1 : x + n < 0
  · have hf := Lib.hid (show t = 0 by rw [← Ht.out]; omega)
    go_wp2
    all_goals first | omega | (go_ret; exact ⟨by rw [hf.out]; rfl, hk2.drew⟩)
  · by_cases h2 : 1048576 < x + n
    · have hf := Lib.hid (show t = 1048576 by rw [← Ht.out]; omega)
      go_wp2
      all_goals first | omega | (go_ret; exact ⟨by rw [hf.out]; rfl, hk2.drew⟩)
    · have hf := Lib.hid (show t = x + n by rw [← Ht.out]; omega)
      go_wp2
      all_goals first | omega | (go_ret; exact ⟨by rw [hf.out]; rfl, hk2.drew⟩)
end Go.Proofs.QW
