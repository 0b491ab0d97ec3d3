/-
  The answer of a rule for what it got (the specification's Answer), in memory: the model's 'answerOf'. Condition: what it got is within bounds.
-/
import Derived.Test.YtohpkolkagddiaaDoorPlays2
namespace Go.Proofs.QW
open Go.RowKit Go.Proofs.KL Go.Proofs.QM
set_option maxRecDepth 100000
set_option linter.unusedSimpArgs false
set_option linter.unusedVariables false

set_option maxHeartbeats 2000000 in
theorem Answer_sum (n : Int) (av sv : Value) (asks got : List Int) (w : World) (X X' : Nat → Prop) (ha : IntsX w X' av asks) (hx : IntsX w X sv got) (hl : got.length ≤ 12) (hr : ∀ v ∈ got, 0 ≤ v ∧ v ≤ 1048576) (hn1 : 1 ≤ n) (hn2 : n ≤ 1048576) :
    Calls Tryd.prog 64 #[.agg #[.int .i64 2, .int .i64 n, av], sv] w fun e w' => e = .returned (.int .i64 (got.foldl (fun m x => (m + x) % n) 0)) ∧ Keeps Nob w w' := by
  obtain ⟨aA, ac, rfl, -, -⟩ := ha
  obtain ⟨A, c, rfl, -, hcell⟩ := id hx
  have Hcell := Lib.hid hcell
  have Hr := Lib.hid hr
  clear hx hcell hr
  obtain ⟨t, ht⟩ : ∃ t, got.foldl (fun m x => (m + x) % n) 0 = t := ⟨_, rfl⟩
  rw [ht]
  have Ht := Lib.hid ht
  clear ht
  go_enter Tryd.func64, Tryd.ntmps64
  go_wp2_with ((with_reducible refine at_dst (N := 2) rfl ?_); go_must (refine ev_box (cs := #[.int .i64 2, .int .i64 n, .slice aA asks.length ac]) rfl rfl rfl ?_; intro g2 w1 hg2 hl2 hb2 hk2); have Hb2 := Lib.hid hb2; have f0 := (blk_cell hb2 0).trans rfl; have f1 := (blk_cell hb2 1).trans rfl; clear hb2; (try simp only [Act.put, List.setIfInBounds_toArray, List.set_cons_zero, List.set_cons_succ]))
  have HK := Lib.hid hk2
  clear hk2 f0
  go_loopw [5, 14] (fun sm v wr => ∃ (k : Nat) (m : Int), v = .int .i64 k ∧ sm = .int .i64 m ∧ k ≤ got.length ∧ wr = w1 ∧ 0 ≤ m ∧ m < n ∧ Hid ((got.drop k).foldl (fun m x => (m + x) % n) m = t))
    (fun _ v _ => got.length - (intOf v).toNat)
  case atStart => exact ⟨0, 0, rfl, rfl, Nat.zero_le _, rfl, Int.le_refl _, by omega, Ht⟩
  case round =>
    obtain ⟨k, m, rfl, rfl, hk, rfl, m0, m1, hst⟩ := hrel
    by_cases hlt : k < got.length
    · obtain ⟨b, o, rfl, _, hcw⟩ := Hcell.out k hlt
      have hcw := HK.out.cell hcw id
      have hx := Hr.out (got.getD k 0) (getD_mem hlt)
      have hd := Lib.hid (drop_getD hlt)
      generalize got.getD k 0 = x at *
      have hw : IntKind.i64.wrap (m + x) = m + x := IntWalk.i64_in _ (by omega)
      have hn0 : ¬ n = 0 := by omega
      have htm : (m + x).tmod n = (m + x) % n := Int.tmod_eq_emod_of_nonneg (by omega)
      have hw2 : IntKind.i64.wrap ((m + x) % n) = (m + x) % n := IntWalk.i64_in _ (by have h1 := Int.emod_nonneg (m + x) hn0; have h2 := Int.emod_lt_of_pos (m + x) (by omega : 0 < n); omega)
      go_wp2
      go_roundw
      case rel =>
        have h1 := Int.emod_nonneg (m + x) hn0
        have h2 := Int.emod_lt_of_pos (m + x) (by omega : 0 < n)
        refine ⟨k + 1, (m + x) % n, by go_num, rfl, by omega, by first | rfl | trivial, h1, h2, Lib.hid ?_⟩
        have h := hst.out
        rw [hd.out, List.foldl_cons] at h
        exact h
      case measure => simp [intOf]; omega
    · have hk' : k = got.length := by omega
      subst hk'
      have hf := Lib.hid (show t = m by rw [← hst.out, List.drop_length]; rfl)
      go_wp2
      go_ret
      exact ⟨by rw [hf.out]; rfl, HK.out⟩
set_option maxHeartbeats 2000000 in
theorem Answer_first (n : Int) (av sv : Value) (asks got : List Int) (w : World) (X X' : Nat → Prop) (ha : IntsX w X' av asks) (hx : IntsX w X sv got) (hl : got.length ≤ 12) :
    Calls Tryd.prog 64 #[.agg #[.int .i64 4, .int .i64 n, av], sv] w fun e w' => e = .returned (.int .i64 (got.getLastD 0)) ∧ Keeps Nob w w' := by
  obtain ⟨aA, ac, rfl, -, -⟩ := ha
  obtain ⟨A, c, rfl, -, hcell⟩ := id hx
  by_cases h0 : got.length = 0
  · obtain rfl : got = [] := List.eq_nil_of_length_eq_zero h0
    clear hx hcell
    go_enter Tryd.func64, Tryd.ntmps64
    go_wp2_with ((with_reducible refine at_dst (N := 2) rfl ?_); go_must (refine ev_box (cs := #[.int .i64 4, .int .i64 n, .slice aA asks.length ac]) rfl rfl rfl ?_; intro g2 w1 hg2 hl2 hb2 hk2); have f0 := (blk_cell hb2 0).trans rfl; clear hb2; (try simp only [Act.put, List.setIfInBounds_toArray, List.set_cons_zero, List.set_cons_succ]))
    go_ret
    exact ⟨rfl, hk2⟩
  · obtain ⟨b, o, rfl, _, hcw⟩ := hcell (got.length - 1) (by omega)
    have hv : got.getLastD 0 = got.getD (got.length - 1) 0 := by
      have hne : got ≠ [] := fun e => h0 (by rw [e]; rfl)
      rw [List.getLastD_eq_getLast?, List.getLast?_eq_getElem?, List.getD_eq_getElem?_getD]
    rw [hv]
    generalize got.getD (got.length - 1) 0 = x at *
    obtain ⟨gl, hgl⟩ : ∃ g, got.length = g + 1 := ⟨got.length - 1, by omega⟩
    rw [show got.length - 1 = gl by omega] at hcw
    rw [hgl]
    have Hcw := Lib.hid hcw
    have hgb : gl ≤ 12 := by omega
    have hwr : wrap64 (gl : Int) = gl := by unfold wrap64; omega
    clear hx hcell hv hgl h0 hcw
    have hi : ((gl + 1 : Nat) : Int) - 1 = gl := by omega
    have hz : (((gl + 1 : Nat) : Int) == 0) = false := by simp; omega
    go_enter Tryd.func64, Tryd.ntmps64
    go_wp2_with ((with_reducible refine at_dst (N := 2) rfl ?_); go_must (refine ev_box (cs := #[.int .i64 4, .int .i64 n, .slice aA asks.length ac]) rfl rfl rfl ?_; intro g2 w1 hg2 hl2 hb2 hk2); have f0 := (blk_cell hb2 0).trans rfl; have hcw1 := hk2.cell Hcw.out id; clear hb2; (try simp only [Act.put, List.setIfInBounds_toArray, List.set_cons_zero, List.set_cons_succ]))
    go_ret
    exact ⟨rfl, hk2⟩
set_option maxHeartbeats 2000000 in
theorem Answer_less (n x y : Int) (av sv : Value) (asks : List Int) (w : World) (X X' : Nat → Prop) (ha : IntsX w X' av asks) (hx : IntsX w X sv [x, y]) :
    Calls Tryd.prog 64 #[.agg #[.int .i64 5, .int .i64 n, av], sv] w fun e w' => e = .returned (.int .i64 (if x < y then 1 else 0)) ∧ Keeps Nob w w' := by
  obtain ⟨aA, ac, rfl, -, -⟩ := ha
  obtain ⟨A, c, rfl, -, hcell⟩ := id hx
  obtain ⟨b, o, rfl, _, c0⟩ := hcell 0 (by simp)
  obtain ⟨b', o', h1, _, c1⟩ := hcell 1 (by simp)
  injection h1 with h1
  injection h1 with h1 h2
  subst h1; subst h2
  have c0 : w.cell? ⟨b, o, none⟩ = some (.int .i64 x) := c0
  have c1 : w.cell? ⟨b, o + 1, none⟩ = some (.int .i64 y) := c1
  clear hx hcell
  obtain ⟨t, ht⟩ : ∃ t : Int, (if x < y then 1 else 0) = t := ⟨_, rfl⟩
  rw [ht]
  have Ht := Lib.hid ht
  clear ht
  go_enter Tryd.func64, Tryd.ntmps64
  go_wp2_with ((with_reducible refine at_dst (N := 2) rfl ?_); go_must (refine ev_box (cs := #[.int .i64 5, .int .i64 n, .slice aA asks.length ac]) rfl rfl rfl ?_; intro g2 w1 hg2 hl2 hb2 hk2); have f0 := (blk_cell hb2 0).trans rfl; have c0 := hk2.cell c0 id; have c1 := hk2.cell c1 id; clear hb2; (try simp only [Act.put, List.setIfInBounds_toArray, List.set_cons_zero, List.set_cons_succ]))
  refine wp_region_perm [(0, true), (1, true), (2, true), (3, true), (4, true), (5, true), (6, true)] (fun w' => w'.cell? ⟨b, o, none⟩ = some (.int .i64 x) ∧ w'.cell? ⟨b, o + 1, none⟩ = some (.int .i64 y)) rfl (by kernel_rfl) (by kernel_rfl) (by decide) (fun c a d v w h => by cases d <;> exact h) ⟨c0, c1⟩ ?_
  refine perm_q (v := ?v1_0) (some 39) rfl rfl rfl ?q1_0 ?h1_0; (case q1_0 => (intro w' hS; obtain ⟨s1, s2⟩ := hS; first | (go_simp; done) | (go_simp; rfl))); (try simp only [Act.put, List.setIfInBounds_toArray, List.set_cons_zero, List.set_cons_succ])
  refine perm_q (v := ?v1_1) (some 40) rfl rfl rfl ?q1_1 ?h1_1; (case q1_1 => (intro w' hS; obtain ⟨s1, s2⟩ := hS; first | (go_simp; done) | (go_simp; rfl))); (try simp only [Act.put, List.setIfInBounds_toArray, List.set_cons_zero, List.set_cons_succ])
  refine perm_q (v := ?v1_2) (some 41) rfl rfl rfl ?q1_2 ?h1_2; (case q1_2 => (intro w' hS; obtain ⟨s1, s2⟩ := hS; first | (go_simp; done) | (go_simp; rfl))); (try simp only [Act.put, List.setIfInBounds_toArray, List.set_cons_zero, List.set_cons_succ])
  refine perm_q (v := ?v1_3) (some 42) rfl rfl rfl ?q1_3 ?h1_3; (case q1_3 => (intro w' hS; obtain ⟨s1, s2⟩ := hS; first | (go_simp; done) | (go_simp; rfl))); (try simp only [Act.put, List.setIfInBounds_toArray, List.set_cons_zero, List.set_cons_succ])
  refine perm_q (v := ?v1_4) (some 43) rfl rfl rfl ?q1_4 ?h1_4; (case q1_4 => (intro w' hS; obtain ⟨s1, s2⟩ := hS; first | (go_simp; done) | (go_simp; rfl))); (try simp only [Act.put, List.setIfInBounds_toArray, List.set_cons_zero, List.set_cons_succ])
  refine perm_q (v := ?v1_5) (some 44) rfl rfl rfl ?q1_5 ?h1_5; (case q1_5 => (intro w' hS; obtain ⟨s1, s2⟩ := hS; first | (go_simp; done) | (go_simp; rfl))); (try simp only [Act.put, List.setIfInBounds_toArray, List.set_cons_zero, List.set_cons_succ])
  refine perm_q (v := ?v1_6) (some 45) rfl rfl rfl ?q1_6 ?h1_6; (case q1_6 => (intro w' hS; obtain ⟨s1, s2⟩ := hS; first | (go_simp; done) | (go_simp; rfl))); (try simp only [Act.put, List.setIfInBounds_toArray, List.set_cons_zero, List.set_cons_succ])
  refine perm_nil ?_
  by_cases hlt : x < y
  · have hf := Lib.hid (show t = 1 by rw [← Ht.out, if_pos hlt])
    go_wp2
    go_ret
    exact ⟨by rw [hf.out]; rfl, hk2.drew⟩
  · have hf := Lib.hid (show t = 0 by rw [← Ht.out, if_neg hlt])
    go_wp2
    go_ret
    exact ⟨by rw [hf.out]; rfl, hk2.drew⟩
set_option maxHeartbeats 2000000 in
theorem Answer_step (n x : Int) (av sv : Value) (asks : List Int) (w : World) (X X' : Nat → Prop) (ha : IntsX w X' av asks) (hx : IntsX w X sv [x]) (x0 : 0 ≤ x) (x1 : x ≤ 1048576) (n0 : -1000 ≤ n) (n1 : n ≤ 1000) :
    Calls Tryd.prog 64 #[.agg #[.int .i64 6, .int .i64 n, av], sv] w fun e w' => e = .returned (.int .i64 (min (max (x + n) 0) 1048576)) ∧ Keeps Nob w w' := by
  obtain ⟨aA, ac, rfl, -, -⟩ := ha
  obtain ⟨A, c, rfl, -, hcell⟩ := id hx
  obtain ⟨b, o, rfl, _, c0⟩ := hcell 0 (by simp)
  have c0 : w.cell? ⟨b, o, none⟩ = some (.int .i64 x) := c0
  have hw : IntKind.i64.wrap (x + n) = x + n := IntWalk.i64_in _ (by omega)
  clear hx hcell
  obtain ⟨t, ht⟩ : ∃ t : Int, min (max (x + n) 0) 1048576 = t := ⟨_, rfl⟩
  rw [ht]
  have Ht := Lib.hid ht
  clear ht
  go_enter Tryd.func64, Tryd.ntmps64
  go_wp2_with ((with_reducible refine at_dst (N := 2) rfl ?_); go_must (refine ev_box (cs := #[.int .i64 6, .int .i64 n, .slice aA asks.length ac]) rfl rfl rfl ?_; intro g2 w1 hg2 hl2 hb2 hk2); have f0 := (blk_cell hb2 0).trans rfl; have f1 := (blk_cell hb2 1).trans rfl; have c0 := hk2.cell c0 id; clear hb2; (try simp only [Act.put, List.setIfInBounds_toArray, List.set_cons_zero, List.set_cons_succ]))
  refine wp_region_perm [(0, true), (1, true), (2, true), (3, true), (4, true), (5, true), (6, true), (7, true), (8, true)] (fun w' => w'.cell? ⟨b, o, none⟩ = some (.int .i64 x) ∧ w'.cell? ⟨g2, 1, none⟩ = some (.int .i64 n)) rfl (by kernel_rfl) (by kernel_rfl) (by decide) (fun c a d v w h => by cases d <;> exact h) ⟨c0, f1⟩ ?_
  refine perm_q (v := ?v2_0) (some 46) rfl rfl rfl ?q2_0 ?h2_0; (case q2_0 => (intro w' hS; obtain ⟨s1, s2⟩ := hS; first | (go_simp; done) | (go_simp; rfl))); (try simp only [Act.put, List.setIfInBounds_toArray, List.set_cons_zero, List.set_cons_succ])
  refine perm_q (v := ?v2_1) (some 47) rfl rfl rfl ?q2_1 ?h2_1; (case q2_1 => (intro w' hS; obtain ⟨s1, s2⟩ := hS; first | (go_simp; done) | (go_simp; rfl))); (try simp only [Act.put, List.setIfInBounds_toArray, List.set_cons_zero, List.set_cons_succ])
  refine perm_q (v := ?v2_2) (some 48) rfl rfl rfl ?q2_2 ?h2_2; (case q2_2 => (intro w' hS; obtain ⟨s1, s2⟩ := hS; first | (go_simp; done) | (go_simp; rfl))); (try simp only [Act.put, List.setIfInBounds_toArray, List.set_cons_zero, List.set_cons_succ])
  refine perm_q (v := ?v2_3) (some 49) rfl rfl rfl ?q2_3 ?h2_3; (case q2_3 => (intro w' hS; obtain ⟨s1, s2⟩ := hS; first | (go_simp; done) | (go_simp; rfl))); (try simp only [Act.put, List.setIfInBounds_toArray, List.set_cons_zero, List.set_cons_succ])
  refine perm_q (v := ?v2_4) (some 50) rfl rfl rfl ?q2_4 ?h2_4; (case q2_4 => (intro w' hS; obtain ⟨s1, s2⟩ := hS; first | (go_simp; done) | (go_simp; rfl))); (try simp only [Act.put, List.setIfInBounds_toArray, List.set_cons_zero, List.set_cons_succ])
  refine perm_q (v := ?v2_5) (some 51) rfl rfl rfl ?q2_5 ?h2_5; (case q2_5 => (intro w' hS; obtain ⟨s1, s2⟩ := hS; first | (go_simp; done) | (go_simp; rfl))); (try simp only [Act.put, List.setIfInBounds_toArray, List.set_cons_zero, List.set_cons_succ])
  refine perm_q (v := ?v2_6) (some 52) rfl rfl rfl ?q2_6 ?h2_6; (case q2_6 => (intro w' hS; obtain ⟨s1, s2⟩ := hS; first | (go_simp; done) | (go_simp; rfl))); (try simp only [Act.put, List.setIfInBounds_toArray, List.set_cons_zero, List.set_cons_succ])
  refine perm_q (v := ?v2_7) (some 53) rfl rfl rfl ?q2_7 ?h2_7; (case q2_7 => (intro w' hS; obtain ⟨s1, s2⟩ := hS; first | (go_simp; done) | (go_simp; rfl))); (try simp only [Act.put, List.setIfInBounds_toArray, List.set_cons_zero, List.set_cons_succ])
  refine perm_q (v := ?v2_8) (some 4) rfl rfl rfl ?q2_8 ?h2_8; (case q2_8 => (intro w' hS; obtain ⟨s1, s2⟩ := hS; first | (go_simp; done) | (go_simp; rfl))); (try simp only [Act.put, List.setIfInBounds_toArray, List.set_cons_zero, List.set_cons_succ])
  refine perm_nil ?_
  by_cases h1 : x + n < 0
  · have hf := Lib.hid (show t = 0 by rw [← Ht.out]; omega)
    go_wp2
    all_goals first | omega | (go_ret; exact ⟨by rw [hf.out]; rfl, hk2.drew⟩)
  · by_cases h2 : 1048576 < x + n
    · have hf := Lib.hid (show t = 1048576 by rw [← Ht.out]; omega)
      go_wp2
      all_goals first | omega | (go_ret; exact ⟨by rw [hf.out]; rfl, hk2.drew⟩)
    · have hf := Lib.hid (show t = x + n by rw [← Ht.out]; omega)
      go_wp2
      all_goals first | omega | (go_ret; exact ⟨by rw [hf.out]; rfl, hk2.drew⟩)
end Go.Proofs.QW

/-
  The specification's Plain as a plain model: what is known is a list of answers with their cost. No program in sight. No condition.
-/
namespace Go.Proofs.QM

/-- An answer of the specification: what it is, how often rules were worked out, and its error. -/
structure RA where
  n : Int
  cost : Int
  e : Int
deriving DecidableEq
abbrev Known := List (Option (Int × Int))
abbrev RAsk := Known → Int → Known × RA
def capM (c : Int) : Int := min c 1048576
/-- Asking in order, with what was got and the cost so far. -/
def rAll (ask : RAsk) (stop : Bool) : Known → Int → List Int → Known × Int × Except Int (List Int)
  | s, c, [] => (s, c, .ok [])
  | s, c, q :: r =>
    match ask s q with
    | (s1, a) =>
      if a.e ≠ 0 then (s1, capM (c + a.cost), .error a.e)
      else if stop = true ∧ a.n ≠ 0 then (s1, capM (c + a.cost), .ok [a.n])
      else
        match rAll ask stop s1 (capM (c + a.cost)) r with
        | (s2, c2, .error e) => (s2, c2, .error e)
        | (s2, c2, .ok vs) => (s2, c2, .ok (a.n :: vs))
def rRule (ask : RAsk) (s : Known) (r : QRule) : Known × RA :=
  if r.kind = 3 then
    match ask s (r.asks.getD 0 0) with
    | (s1, a) =>
      if a.e ≠ 0 then (s1, ⟨0, capM (1 + a.cost), a.e⟩)
      else
        match ask s1 (pickOf r a.n) with
        | (s2, b) => (s2, ⟨b.n, capM (capM (1 + a.cost) + b.cost), b.e⟩)
  else
    match rAll ask (r.kind == 4) s 1 r.asks with
    | (s1, c, .error e) => (s1, ⟨0, c, e⟩)
    | (s1, c, .ok got) => (s1, ⟨answerOf r got, c, 0⟩)
def rAsk (rules : List QRule) (vs : List Int) : Nat → List Int → RAsk
  | 0, _, s, _ => (s, ⟨0, 0, 99⟩)
  | f + 1, on, s, q =>
    if (rules.getD q.toNat default).kind = 1 then (s, ⟨vs.getD q.toNat 0, 0, 0⟩)
    else if q ∈ on then (s, ⟨0, 0, 8⟩)
    else
      match s.getD q.toNat none with
      | some (n, c) => (s, ⟨n, c, 0⟩)
      | none =>
        match rRule (rAsk rules vs f (q :: on)) s (rules.getD q.toNat default) with
        | (s1, a) => if a.e = 0 then (s1.set q.toNat (some (a.n, a.cost)), a) else (s1, a)
end Go.Proofs.QM

/-
  The model of an engine that was just made, and the specification's Plain, go side by side. No program in sight. No condition.
-/
namespace Go.Proofs.QM

structure Sim (E : Env) (s : PS) (k : Known) : Prop where
  len : k.length = E.rules.length
  chk : ∀ q, InQ E q → ∀ kr, s.get q = some kr → kr.checked = E.rev
  some_ : ∀ q, InQ E q → ∀ kr, s.get q = some kr → ∃ c, k.getD q.toNat none = some (kr.value, c)
  none_ : ∀ q, InQ E q → s.get q = none → k.getD q.toNat none = none
def Fits (r : Except Int (Int × Int)) (a : RA) : Prop :=
  match r with
  | .ok (v, _) => a.n = v ∧ a.e = 0
  | .error c => a.e = c ∧ c ≠ 0
def SimAsk (E : Env) (on : List Int) (ask : AskFn) (rask : RAsk) : Prop :=
  ∀ s k q, PInv E on s → Sim E s k → InQ E q → Sim E (ask s q).1 (rask k q).1 ∧ Fits (ask s q).2 (rask k q).2
theorem askAll_sim {E : Env} {on : List Int} {ask : AskFn} {rask : RAsk} (hg : Good E on ask) (hs : SimAsk E on ask rask) (stop : Bool) :
    ∀ (l : List Int) (s : PS) (k : Known) (c : Int), PInv E on s → Sim E s k → (∀ q ∈ l, InQ E q) →
      Sim E (askAll ask stop s l).1 (rAll rask stop k c l).1 ∧
        match (askAll ask stop s l).2, (rAll rask stop k c l).2.2 with
        | .ok a, .ok b => a = b
        | .error a, .error b => a = b ∧ a ≠ 0
        | _, _ => False
  | [], s, k, c, _, h, _ => ⟨h, rfl⟩
  | q :: r, s, k, c, hi, h, hq => by
    have h1 := hs s k q hi h (hq q List.mem_cons_self)
    have h2 := (hg s q hi (hq q List.mem_cons_self)).1.inv
    unfold askAll rAll
    rcases he : ask s q with ⟨s1, r1⟩
    rcases hr : rask k q with ⟨k1, a⟩
    rw [he, hr] at h1
    rw [he] at h2
    cases r1 with
    | error e =>
      obtain ⟨h3, h4, h5⟩ := h1
      simp only at h3 h4 h5 ⊢
      rw [if_pos (by rw [h4]; exact h5)]
      exact ⟨h3, h4.symm, h5⟩
    | ok y =>
      obtain ⟨v, ch⟩ := y
      obtain ⟨h3, h4, h5⟩ := h1
      simp only at h3 h4 h5 h2 ⊢
      rw [if_neg (show ¬ (a.e ≠ 0) from fun h => h h5), h4]
      by_cases hst : stop = true ∧ v ≠ 0
      · rw [if_pos hst, if_pos hst]
        exact ⟨h3, rfl⟩
      · rw [if_neg hst, if_neg hst]
        have ih := askAll_sim hg hs stop r s1 k1 (capM (c + a.cost)) h2 h3 (fun p hp => hq p (List.mem_cons_of_mem _ hp))
        rcases ha : askAll ask stop s1 r with ⟨s2, r2⟩
        rcases hb : rAll rask stop k1 (capM (c + a.cost)) r with ⟨k2, c2, b2⟩
        rw [ha, hb] at ih
        cases r2 with
        | error e2 =>
          cases b2 with
          | error e3 =>
            obtain ⟨i1, i2, i3⟩ := ih
            exact ⟨i1, i2, i3⟩
          | ok _ => exact ih.2.elim
        | ok g2 =>
          cases b2 with
          | error _ => exact ih.2.elim
          | ok g3 =>
            obtain ⟨i1, i2⟩ := ih
            simp only at i2
            subst i2
            exact ⟨i1, rfl⟩
theorem evalR_sim {E : Env} {on : List Int} {ask : AskFn} {rask : RAsk} (hg : Good E on ask) (hs : SimAsk E on ask rask) {r : QRule} (hr : ROk E.rules.length r) {s : PS} {k : Known} (hi : PInv E on s) (h : Sim E s k) :
    Sim E (evalR ask s r).1 (rRule rask k r).1 ∧
      match (evalR ask s r).2 with
      | .ok (v, _) => (rRule rask k r).2.n = v ∧ (rRule rask k r).2.e = 0
      | .error c => (rRule rask k r).2.e = c ∧ c ≠ 0 := by
  unfold evalR rRule
  by_cases hk : r.kind = 3
  · rw [if_pos hk, if_pos hk]
    have hq0 := (pick_mem hr hk (v := 0) (Int.le_refl 0)).2
    have h1 := hs s k (r.asks.getD 0 0) hi h hq0
    have hgd := hg s (r.asks.getD 0 0) hi hq0
    rcases he : ask s (r.asks.getD 0 0) with ⟨s1, r1⟩
    rcases hra : rask k (r.asks.getD 0 0) with ⟨k1, a⟩
    rw [he, hra] at h1
    rw [he] at hgd
    cases r1 with
    | error e =>
      obtain ⟨h3, h4, h5⟩ := h1
      simp only at h3 h4 h5 ⊢
      rw [if_pos (by rw [h4]; exact h5)]
      exact ⟨h3, h4, h5⟩
    | ok y =>
      obtain ⟨v, ch⟩ := y
      obtain ⟨h3, h4, h5⟩ := h1
      simp only at h3 h4 h5 ⊢
      rw [if_neg (show ¬ (a.e ≠ 0) from fun h => h h5), h4]
      have hv := (hgd.2 v ch rfl).1
      have h2 := hs s1 k1 (pickOf r v) hgd.1.inv h3 (pick_mem hr hk hv).1
      rcases he2 : ask s1 (pickOf r v) with ⟨s2, r2⟩
      rcases hrb : rask k1 (pickOf r v) with ⟨k2, b⟩
      rw [he2, hrb] at h2
      cases r2 with
      | error e => exact h2
      | ok z => exact h2
  · rw [if_neg hk, if_neg hk]
    have h1 := askAll_sim hg hs (r.kind == 4) r.asks s k 1 hi h (fun q hq => hr.asks q hq)
    rcases ha : askAll ask (r.kind == 4) s r.asks with ⟨s1, r1⟩
    rcases hb : rAll rask (r.kind == 4) k 1 r.asks with ⟨k1, c1, b1⟩
    rw [ha, hb] at h1
    cases r1 with
    | error e =>
      cases b1 with
      | error e' =>
        obtain ⟨h3, h4, h5⟩ := h1
        exact ⟨h3, h4.symm, h5⟩
      | ok _ => exact h1.2.elim
    | ok got =>
      cases b1 with
      | error _ => exact h1.2.elim
      | ok got' =>
        obtain ⟨h3, h4⟩ := h1
        simp only at h4
        subst h4
        exact ⟨h3, rfl, rfl⟩
theorem Sim.put {E : Env} {s : PS} {k : Known} (h : Sim E s k) {q : Int} (hq : InQ E q) (hl : s.ans.length = E.rules.length) {kr : KeptR} (hc : kr.checked = E.rev) (c : Int) : Sim E (s.set q kr) (k.set q.toNat (some (kr.value, c))) := by
  have hlt : q.toNat < s.ans.length := by rw [hl]; have := hq.1; have := hq.2; omega
  have hltk : q.toNat < k.length := by rw [h.len]; have := hq.1; have := hq.2; omega
  have hk : ∀ p, InQ E p → (k.set q.toNat (some (kr.value, c))).getD p.toNat none = if p = q then some (kr.value, c) else k.getD p.toNat none := fun p hp => by
    rw [List.getD_eq_getElem?_getD, List.getElem?_set]
    by_cases e : p = q
    · subst e; rw [if_pos rfl, if_pos hltk, if_pos rfl]; rfl
    · rw [if_neg (by have := hp.1; have := hq.1; omega), if_neg e, List.getD_eq_getElem?_getD]
  have hg : ∀ p, InQ E p → (s.set q kr).get p = if p = q then some kr else s.get p := fun p hp => by
    by_cases e : p = q
    · subst e; rw [if_pos rfl]; exact get_set_self hlt
    · rw [if_neg e]; exact get_set_other hq.1 hp.1 e
  refine ⟨by rw [List.length_set]; exact h.len, fun p hp x hx => ?_, fun p hp x hx => ?_, fun p hp hx => ?_⟩
  · rw [hg p hp] at hx
    split at hx
    · injection hx with hx; rw [← hx]; exact hc
    · exact h.chk p hp x hx
  · rw [hg p hp] at hx
    rw [hk p hp]
    split at hx
    · rename_i e; rw [if_pos e]; injection hx with hx; exact ⟨c, by rw [← hx]⟩
    · rename_i e; rw [if_neg e]; exact h.some_ p hp x hx
  · rw [hg p hp] at hx
    rw [hk p hp]
    split at hx
    · cases hx
    · rename_i e; rw [if_neg e]; exact h.none_ p hp hx
theorem rAsk_sim {E : Env} (hE : EnvOk E) (hm : E.most = E.rules.length) : ∀ (f : Nat) (on : List Int), SimAsk E on (askF E f on) (rAsk E.rules E.inp f on)
  | 0, on, s, k, q, hi, h, hq => ⟨h, rfl, by decide⟩
  | f + 1, on, s, k, q, hi, h, hq => by
    unfold askF rAsk
    have hrule : E.rules.getD q.toNat default = E.rule q := rfl
    rw [hrule]
    by_cases hk : (E.rule q).kind = 1
    · rw [if_pos hk, if_pos hk]
      exact ⟨h, rfl, rfl⟩
    rw [if_neg hk, if_neg hk]
    by_cases hon : q ∈ on
    · rw [if_pos hon, if_pos hon]
      exact ⟨h, rfl, by decide⟩
    rw [if_neg hon, if_neg hon]
    cases hg : s.get q with
    | some kr =>
      obtain ⟨c, hc⟩ := h.some_ q hq kr hg
      simp only [hc, if_pos (h.chk q hq kr hg)]
      exact ⟨h, rfl, rfl⟩
    | none =>
      have hn := h.none_ q hq hg
      simp only [hn]
      have hi' := hi.open_ hq hon (fun kr hkr => by rw [hg] at hkr; cases hkr)
      have hG := askF_good hE f (q :: on)
      have hr := hE.rok _ (rule_mem hq)
      have h1 := evalR_sim hG (rAsk_sim hE hm f (q :: on)) hr hi' h
      have h2 := (evalR_good hE hG hr hi').1.inv
      unfold workF
      rcases he : evalR (askF E f (q :: on)) s (E.rule q) with ⟨s1, r1⟩
      rcases hb : rRule (rAsk E.rules E.inp f (q :: on)) k (E.rule q) with ⟨k1, a⟩
      rw [he, hb] at h1
      rw [he] at h2
      cases r1 with
      | error e =>
        obtain ⟨h3, h4, h5⟩ := h1
        simp only at h3 h4 ⊢
        rw [if_neg (by rw [h4]; exact h5)]
        exact ⟨h3, h4, h5⟩
      | ok y =>
        obtain ⟨v, asked⟩ := y
        obtain ⟨h3, h4, h5⟩ := h1
        simp only at h3 h4 h5 h2 ⊢
        have hq1 : q ∉ s1.done := fun hd => by
          obtain ⟨_, kr, hkr, hc⟩ := h2.dok q hd
          exact h2.onk q List.mem_cons_self kr hkr hc
        have hlen := nodup_length (n := E.rules.length) (l := q :: s1.done) (List.nodup_cons.2 ⟨hq1, h2.dnd⟩) (fun p hp => by
          rcases List.mem_cons.1 hp with rfl | hp
          · exact hq
          · exact (h2.dok p hp).1)
        rw [List.length_cons] at hlen
        rw [if_neg (by rw [hm]; omega), if_pos h5]
        refine ⟨?_, h4, h5⟩
        have h3' : Sim E ({ s1 with done := s1.done ++ [q] } : PS) k1 := ⟨h3.len, h3.chk, h3.some_, h3.none_⟩
        rw [h4]
        exact h3'.put hq h2.alen (kr := ⟨v, asked, E.rev, chOf E.rev none v⟩) rfl a.cost
end Go.Proofs.QM

/-
  The specification's Plain as it lies in memory: rules, inputs, what is known, what is open; and that it stays while other blocks are written. No condition.
-/
namespace Go.Proofs.QW
open Go.RowKit Go.Proofs.KL Go.Proofs.QM
set_option maxRecDepth 100000

/-- The row of what is known (is, answer, cost, error). -/
def KnownX (w : World) (kb n : Nat) (k : Known) : Prop :=
  ∃ cs : Array Value, w.heap[kb]? = some (.cells cs 80 (0, 0)) ∧ ∀ i, i < n → cs[i * 4]? = some (.bool (k.getD i none).isSome) ∧ cs[i * 4 + 1]? = some (.int .i64 ((k.getD i none).getD (0, 0)).1) ∧
    cs[i * 4 + 2]? = some (.int .i64 ((k.getD i none).getD (0, 0)).2) ∧ cs[i * 4 + 3]? = some (.int .i64 0)
/-- The row of what is open. -/
def OnX (w : World) (nb n : Nat) (on : List Int) : Prop :=
  ∃ cs : Array Value, w.heap[nb]? = some (.cells cs 4 (0, 0)) ∧ ∀ i : Nat, i < n → cs[i]? = some (.bool (decide ((i : Int) ∈ on)))
theorem KnownX.keep {M : Nat → Prop} {w w' : World} {kb n : Nat} {k : Known} (h : KnownX w kb n k) (hk : Keeps M w w') (hn : ¬ M kb) : KnownX w' kb n k := by
  obtain ⟨cs, hb, hx⟩ := h
  exact ⟨cs, hk.blk hb hn, hx⟩
theorem OnX.keep {M : Nat → Prop} {w w' : World} {nb n : Nat} {on : List Int} (h : OnX w nb n on) (hk : Keeps M w w') (hn : ¬ M nb) : OnX w' nb n on := by
  obtain ⟨cs, hb, hx⟩ := h
  exact ⟨cs, hk.blk hb hn, hx⟩
/-- The specification's Plain, as it lies: p's block, and the blocks that its asking writes. -/
structure PlainAt (w : World) (X Y : Nat → Prop) (pb kb nb : Nat) (rules : List QRule) (vs : List Int) (on : List Int) (k : Known) : Prop where
  blk : ∃ rv iv, w.heap[pb]? = some (.cells #[rv, iv, .slice (some ⟨kb, 0, none⟩) rules.length rules.length, .slice (some ⟨nb, 0, none⟩) rules.length rules.length] 78 (0, 0)) ∧ RulesX w X rv rules ∧ IntsX w Y iv vs
  known : KnownX w kb rules.length k
  open_ : OnX w nb rules.length on
  xk : ¬ X kb
  xn : ¬ X nb
  yk : ¬ Y kb
  yn : ¬ Y nb
theorem PlainAt.keep {w w' : World} {X Y : Nat → Prop} {pb kb nb : Nat} {rules : List QRule} {vs on : List Int} {k : Known} (h : PlainAt w X Y pb kb nb rules vs on k) (hk : Keeps Nob w w') : PlainAt w' X Y pb kb nb rules vs on k := by
  obtain ⟨⟨rv, iv, hb, hr, hv⟩, h1, h2, x1, x2, y1, y2⟩ := h
  exact ⟨⟨rv, iv, hk.blk hb id, hr.keep hk (fun _ _ _ => id) (fun _ _ h => h), hv.keep hk (fun _ _ _ => id) (fun _ _ h => h)⟩, h1.keep hk id, h2.keep hk id, x1, x2, y1, y2⟩
end Go.Proofs.QW

/-
  Bounds of what the specification's Plain knows. No program in sight. No condition.
-/
namespace Go.Proofs.QM

/-- What is known is within bounds. -/
def KB (n : Nat) (k : Known) : Prop := k.length = n ∧ ∀ i v c, k.getD i none = some (v, c) → 0 ≤ v ∧ v ≤ 1048576 ∧ 0 ≤ c ∧ c ≤ 1048576
theorem capM_range {c : Int} (h : 0 ≤ c) : 0 ≤ capM c ∧ capM c ≤ 1048576 := by unfold capM; omega
theorem KB.put {n : Nat} {k : Known} (h : KB n k) (q : Nat) {v c : Int} (hv : 0 ≤ v ∧ v ≤ 1048576 ∧ 0 ≤ c ∧ c ≤ 1048576) : KB n (k.set q (some (v, c))) := by
  refine ⟨by rw [List.length_set]; exact h.1, fun i v' c' hx => ?_⟩
  rw [List.getD_eq_getElem?_getD, List.getElem?_set] at hx
  split at hx
  · split at hx
    · simp at hx
      obtain ⟨rfl, rfl⟩ := hx
      exact hv
    · simp at hx
  · exact h.2 i v' c' (by rw [List.getD_eq_getElem?_getD]; exact hx)
def RGood (n : Nat) (rask : RAsk) : Prop :=
  ∀ s (q : Int), KB n s → 0 ≤ q ∧ q < n → KB n (rask s q).1 ∧ (0 ≤ (rask s q).2.cost ∧ (rask s q).2.cost ≤ 1048576) ∧ ((rask s q).2.e = 0 → 0 ≤ (rask s q).2.n ∧ (rask s q).2.n ≤ 1048576)
theorem rAll_good {n : Nat} {rask : RAsk} (hg : RGood n rask) (stop : Bool) : ∀ (l : List Int) (s : Known) (c : Int), KB n s → (∀ q ∈ l, 0 ≤ q ∧ q < n) → 0 ≤ c ∧ c ≤ 1048576 →
    KB n (rAll rask stop s c l).1 ∧ (0 ≤ (rAll rask stop s c l).2.1 ∧ (rAll rask stop s c l).2.1 ≤ 1048576) ∧ ∀ got, (rAll rask stop s c l).2.2 = .ok got → got.length ≤ l.length ∧ (∀ v ∈ got, 0 ≤ v ∧ v ≤ 1048576) ∧ (stop = false → got.length = l.length)
  | [], s, c, hs, _, hc => ⟨hs, hc, fun got h => by simp [rAll] at h; subst h; simp⟩
  | q :: r, s, c, hs, hq, hc => by
    obtain ⟨h1, h2, h3⟩ := hg s q hs (hq q List.mem_cons_self)
    unfold rAll
    rcases he : rask s q with ⟨s1, a⟩
    rw [he] at h1 h2 h3
    simp only at h1 h2 h3 ⊢
    have hcap := capM_range (c := c + a.cost) (by omega)
    by_cases he0 : a.e = 0
    · rw [if_neg (show ¬ (a.e ≠ 0) from fun h => h he0)]
      by_cases hst : stop = true ∧ a.n ≠ 0
      · rw [if_pos hst]
        refine ⟨h1, hcap, fun got h => ?_⟩
        injection h with h
        subst h
        refine ⟨by simp, fun v hv => ?_, fun h => by rw [hst.1] at h; cases h⟩
        rw [List.mem_singleton.1 hv]; exact h3 he0
      · rw [if_neg hst]
        have ih := rAll_good hg stop r s1 (capM (c + a.cost)) h1 (fun p hp => hq p (List.mem_cons_of_mem _ hp)) hcap
        rcases hb : rAll rask stop s1 (capM (c + a.cost)) r with ⟨k2, c2, b2⟩
        rw [hb] at ih
        obtain ⟨i1, i2, i3⟩ := ih
        cases b2 with
        | error e => exact ⟨i1, i2, fun got h => by cases h⟩
        | ok vs =>
          refine ⟨i1, i2, fun got h => ?_⟩
          injection h with h
          subst h
          obtain ⟨j1, j2, j3⟩ := i3 vs rfl
          refine ⟨by simp; omega, fun v hv => ?_, fun h => by simp [j3 h]⟩
          rcases List.mem_cons.1 hv with rfl | hv
          · exact h3 he0
          · exact j2 v hv
    · rw [if_pos he0]
      exact ⟨h1, hcap, fun got h => by cases h⟩
theorem rRule_good {E : Env} {rask : RAsk} (hg : RGood E.rules.length rask) {r : QRule} (hr : ROk E.rules.length r) {s : Known} (hs : KB E.rules.length s) :
    KB E.rules.length (rRule rask s r).1 ∧ (0 ≤ (rRule rask s r).2.cost ∧ (rRule rask s r).2.cost ≤ 1048576) ∧ ((rRule rask s r).2.e = 0 → 0 ≤ (rRule rask s r).2.n ∧ (rRule rask s r).2.n ≤ 1048576) := by
  unfold rRule
  by_cases hk : r.kind = 3
  · rw [if_pos hk]
    have hq0 := (pick_mem (E := E) hr hk (v := 0) (Int.le_refl 0)).2
    obtain ⟨h1, h2, h3⟩ := hg s (r.asks.getD 0 0) hs hq0
    rcases he : rask s (r.asks.getD 0 0) with ⟨s1, a⟩
    rw [he] at h1 h2 h3
    simp only at h1 h2 h3 ⊢
    have hcap := capM_range (c := 1 + a.cost) (by omega)
    by_cases he0 : a.e = 0
    · rw [if_neg (show ¬ (a.e ≠ 0) from fun h => h he0)]
      obtain ⟨g1, g2, g3⟩ := hg s1 (pickOf r a.n) h1 (pick_mem (E := E) hr hk (h3 he0).1).1
      rcases he2 : rask s1 (pickOf r a.n) with ⟨s2, b⟩
      rw [he2] at g1 g2 g3
      exact ⟨g1, capM_range (c := capM (1 + a.cost) + b.cost) (by simp only at g2; omega), g3⟩
    · rw [if_pos he0]
      exact ⟨h1, hcap, fun _ => ⟨Int.le_refl 0, (by omega : (0 : Int) ≤ 1048576)⟩⟩
  · rw [if_neg hk]
    have h := rAll_good hg (r.kind == 4) r.asks s 1 hs hr.asks (by omega)
    rcases hb : rAll rask (r.kind == 4) s 1 r.asks with ⟨k2, c2, b2⟩
    rw [hb] at h
    obtain ⟨h1, h2, h3⟩ := h
    cases b2 with
    | error e => exact ⟨h1, h2, fun _ => ⟨Int.le_refl 0, (by omega : (0 : Int) ≤ 1048576)⟩⟩
    | ok got => exact ⟨h1, h2, fun _ => answerOf_range hr (h3 got rfl).2.1⟩
theorem rAsk_good {E : Env} (hE : EnvOk E) : ∀ (f : Nat) (on : List Int), RGood E.rules.length (rAsk E.rules E.inp f on)
  | 0, _, s, _, hs, _ => ⟨hs, ⟨Int.le_refl 0, (by omega : (0 : Int) ≤ 1048576)⟩, fun _ => ⟨Int.le_refl 0, (by omega : (0 : Int) ≤ 1048576)⟩⟩
  | f + 1, on, s, q, hs, hq => by
    unfold rAsk
    have hrule : E.rules.getD q.toNat default = E.rule q := rfl
    rw [hrule]
    by_cases hk : (E.rule q).kind = 1
    · rw [if_pos hk]
      exact ⟨hs, ⟨Int.le_refl 0, (by omega : (0 : Int) ≤ 1048576)⟩, fun _ => hE.ival q hq.1 hq.2 hk⟩
    rw [if_neg hk]
    by_cases hon : q ∈ on
    · rw [if_pos hon]
      exact ⟨hs, ⟨Int.le_refl 0, (by omega : (0 : Int) ≤ 1048576)⟩, fun _ => ⟨Int.le_refl 0, (by omega : (0 : Int) ≤ 1048576)⟩⟩
    rw [if_neg hon]
    cases hg : s.getD q.toNat none with
    | some x =>
      obtain ⟨v, c⟩ := x
      obtain ⟨h1, h2, h3, h4⟩ := hs.2 _ _ _ hg
      exact ⟨hs, ⟨h3, h4⟩, fun _ => ⟨h1, h2⟩⟩
    | none =>
      have hr := hE.rok _ (rule_mem (E := E) hq)
      obtain ⟨h1, h2, h3⟩ := rRule_good (rAsk_good hE f (q :: on)) hr hs
      rcases hb : rRule (rAsk E.rules E.inp f (q :: on)) s (E.rule q) with ⟨k1, a⟩
      rw [hb] at h1 h2 h3
      simp only at h1 h2 h3 ⊢
      by_cases he : a.e = 0
      · rw [if_pos he]
        exact ⟨h1.put _ ⟨(h3 he).1, (h3 he).2, h2.1, h2.2⟩, h2, h3⟩
      · rw [if_neg he]
        exact ⟨h1, h2, h3⟩
end Go.Proofs.QM

/-
  A rule worked out by the specification's Plain, in memory: all kinds but RuPick come to the model's 'rRule'. Condition: nested askings come to the model's.
-/
namespace Go.Proofs.QW
open Go.RowKit Go.Proofs.KL Go.Proofs.QM
set_option maxRecDepth 100000
set_option linter.unusedSimpArgs false
set_option linter.unusedVariables false

/-- What the specification's asking comes to. -/
def RAns (w : World) (X Y : Nat → Prop) (pb kb nb : Nat) (E : Env) (on : List Int) (r : Known × RA) (e : Ending) (w' : World) : Prop :=
  (∃ b : Bool, e = .returned (.agg #[.bool b, .int .i64 r.2.n, .int .i64 r.2.cost, .int .i64 r.2.e])) ∧ Keeps (fun x => x = kb ∨ x = nb) w w' ∧ PlainAt w' X Y pb kb nb E.rules E.inp on r.1
def RAskOK (E : Env) (on : List Int) (rask : RAsk) : Prop :=
  ∀ w X Y pb kb nb s q, PlainAt w X Y pb kb nb E.rules E.inp on s → KB E.rules.length s → InQ E q →
    Calls Tryd.prog 35 #[.pointer (some ⟨pb, 0, none⟩), .int .i64 q] w (RAns w X Y pb kb nb E on (rask s q))
section
variable {P : Program} {ops : Array Oper} {rest : List Oper} {o : Oper} {a : Act} {Q : Exit → Act → World → Prop}
theorem ev_min {W : World} (hgd : o.guard = none) {x y : Operand} {ts : Array TypeId} (ho : o.op = .call { callee := .builtin .min, args := #[x, y], argTypes := ts }) {k k' : IntKind} {p q m : Int} (hx : a.eval x = .int k p) (hy : a.eval y = .int k' q) (hm : (if q < p then q else p) = m)
    (h : wpList P ops Q rest (a.put o.dst (.int k m)) W) : wpList P ops Q (o :: rest) a W :=
  ev_run hgd (w1 := W) (v := .int k m) (by simp [execOp, ho, resolve, invoke, builtin, hx, hy, Go.run_min_int2, hm]) h
end
theorem info80 : ∃ i, Tryd.prog.info? 80 = some i ∧ i.size = 4 := by
  have h : (Tryd.prog.info? 80).map (·.size) = some 4 := by kernel_rfl
  obtain ⟨i, hi, hs⟩ := Option.map_eq_some_iff.1 h
  exact ⟨i, hi, hs⟩
theorem zero80 : (Tryd.prog.info? 80).map (·.zero) = some (some (.agg #[.bool false, .int .i64 0, .int .i64 0, .int .i64 0])) := by kernel_rfl
/-- The answer of a rule that is no RuPick, for what it got. -/
theorem Answer_any {n : Int} {r : QRule} (hr : ROk n r) (h1 : r.kind ≠ 1) (h3 : r.kind ≠ 3) {av sv : Value} {got : List Int} {w : World} {X X' : Nat → Prop} (ha : IntsX w X' av r.asks) (hx : IntsX w X sv got) (hl : got.length ≤ r.asks.length) (hv : ∀ v ∈ got, 0 ≤ v ∧ v ≤ 1048576) (hf : r.kind ≠ 4 → got.length = r.asks.length) :
    Calls Tryd.prog 64 #[.agg #[.int .i64 r.kind, .int .i64 r.n, av], sv] w fun e w' => e = .returned (.int .i64 (answerOf r got)) ∧ Keeps Nob w w' := by
  have l12 := hr.l12
  obtain ⟨k1, k2, n1, n2, _, l1, l2, _⟩ := hr
  obtain ⟨K, N, asks⟩ := r
  simp only at *
  have hK : K = 2 ∨ K = 4 ∨ K = 5 ∨ K = 6 := by omega
  rcases hK with rfl | rfl | rfl | rfl
  · have n1 : (1 : Int) ≤ N := n1
    have n2 : N ≤ 1048576 := n2
    exact Answer_sum N av sv asks got w X X' ha hx (by omega) hv n1 n2
  · exact Answer_first N av sv asks got w X X' ha hx (by omega)
  · have l1 : (2 : Int) ≤ asks.length := l1
    have l2 : (asks.length : Int) ≤ 2 := l2
    have hg := hf (by decide)
    match got, (show got.length = 2 by omega) with
    | [x, y], _ => exact Answer_less N x y av sv asks w X X' ha hx
  · have l1 : (1 : Int) ≤ asks.length := l1
    have l2 : (asks.length : Int) ≤ 1 := l2
    have n1 : (-1000 : Int) ≤ N := n1
    have n2 : N ≤ 1000 := n2
    have hg := hf (by decide)
    match got, (show got.length = 1 by omega) with
    | [x], _ =>
      obtain ⟨x0, x1⟩ := hv x (by simp)
      exact Answer_step N x av sv asks w X X' ha hx x0 x1 n1 n2
def rprep (got : List Int) (r : Known × Int × Except Int (List Int)) : Known × Int × Except Int (List Int) :=
  match r with
  | (s, c, .error e) => (s, c, .error e)
  | (s, c, .ok vs) => (s, c, .ok (got ++ vs))
/-- The state of the loop over what a rule asks. -/
structure RLoop (w1 : World) (X Y : Nat → Prop) (pb kb nb g5 : Nat) (E : Env) (on : List Int) (rask : RAsk) (stop : Bool) (s : Known) (L : List Int) (k : Nat) (got : List Int) (sk : Known) (c : Int) (gv : Value) (wr : World) : Prop where
  len : got.length = k
  rng : ∀ v ∈ got, 0 ≤ v ∧ v ≤ 1048576
  keep : Keeps (fun x => x = kb ∨ x = nb ∨ x = g5) w1 wr
  pa : PlainAt wr X Y pb kb nb E.rules E.inp on sk
  kn : KB E.rules.length sk
  own : wr.ownsRow w1.heap.size 3 1 gv k (got.map (Value.int .i64))
  out : wr.heap[g5]? = some (.cells #[.bool false, .int .i64 0, .int .i64 c, .int .i64 0] 80 (0, 0))
  c01 : 0 ≤ c ∧ c ≤ 1048576
  eq : rAll rask stop s 1 L = rprep got (rAll rask stop sk c (L.drop k))
theorem RLoop.start {w1 : World} {X Y : Nat → Prop} {pb kb nb g5 : Nat} {E : Env} {on : List Int} {rask : RAsk} {stop : Bool} {s : Known} {L : List Int} (hp : PlainAt w1 X Y pb kb nb E.rules E.inp on s) (hk : KB E.rules.length s)
    (ho : w1.heap[g5]? = some (.cells #[.bool false, .int .i64 0, .int .i64 1, .int .i64 0] 80 (0, 0))) : RLoop w1 X Y pb kb nb g5 E on rask stop s L 0 [] s 1 (.slice none 0 0) w1 :=
  ⟨rfl, fun _ h => (by cases h), Keeps.refl _ _, hp, hk, ⟨rfl, .inl ⟨rfl, rfl⟩⟩, ho, ⟨by decide, by decide⟩, by
    rcases h : rAll rask stop s 1 L with ⟨s2, c2, r2⟩
    cases r2 <;> simp [rprep, h]⟩
section
variable {w1 wr : World} {X Y : Nat → Prop} {pb kb nb g5 : Nat} {E : Env} {on : List Int} {rask : RAsk} {stop : Bool} {s sk s1 : Known} {L : List Int} {k : Nat} {got : List Int} {c : Int} {gv : Value} {a : RA}
theorem RLoop.err (h : RLoop w1 X Y pb kb nb g5 E on rask stop s L k got sk c gv wr) (hlt : k < L.length) (hr : rask sk (L.getD k 0) = (s1, a)) (he : a.e ≠ 0) : rAll rask stop s 1 L = (s1, capM (c + a.cost), .error a.e) := by
  rw [h.eq, drop_cons hlt, rAll, hr]
  simp only [if_pos he]; rfl
theorem RLoop.stop_ (h : RLoop w1 X Y pb kb nb g5 E on rask true s L k got sk c gv wr) (hlt : k < L.length) (hr : rask sk (L.getD k 0) = (s1, a)) (he : a.e = 0) (hn : a.n ≠ 0) : rAll rask true s 1 L = (s1, capM (c + a.cost), .ok (got ++ [a.n])) := by
  rw [h.eq, drop_cons hlt, rAll, hr]
  simp [he, hn, rprep]
theorem RLoop.end_ (h : RLoop w1 X Y pb kb nb g5 E on rask stop s L L.length got sk c gv wr) : rAll rask stop s 1 L = (sk, c, .ok got) := by
  rw [h.eq, List.drop_length]; simp [rAll, rprep]
theorem RLoop.step_eq (h : RLoop w1 X Y pb kb nb g5 E on rask stop s L k got sk c gv wr) (hlt : k < L.length) (hr : rask sk (L.getD k 0) = (s1, a)) (he : a.e = 0) (hs : ¬ (stop = true ∧ a.n ≠ 0)) : rAll rask stop s 1 L = rprep (got ++ [a.n]) (rAll rask stop s1 (capM (c + a.cost)) (L.drop (k + 1))) := by
  rw [h.eq, drop_cons hlt, rAll, hr]
  simp only [if_neg hs, if_neg (show ¬ a.e ≠ 0 from fun h => h he)]
  rcases rAll rask stop s1 (capM (c + a.cost)) (L.drop (k + 1)) with ⟨s2, c2, r2⟩
  cases r2 <;> simp [rprep]
end
theorem capM_min {c m : Int} (h : capM c = m) : (if (1048576 : Int) < c then 1048576 else c) = m := by rw [← h]; unfold capM; omega
theorem PlainAt.lts {w : World} {X Y : Nat → Prop} {pb kb nb : Nat} {rules : List QRule} {vs on : List Int} {k : Known} (h : PlainAt w X Y pb kb nb rules vs on k) : kb < w.heap.size ∧ nb < w.heap.size := by
  obtain ⟨cs, h1, _⟩ := h.known
  obtain ⟨cs2, h2, _⟩ := h.open_
  exact ⟨blk_lt h1, blk_lt h2⟩
theorem RLoop.keepW {w w1 wr : World} {X Y : Nat → Prop} {pb kb nb g5 : Nat} {E : Env} {on : List Int} {rask : RAsk} {stop : Bool} {s sk : Known} {L : List Int} {k : Nat} {got : List Int} {c : Int} {gv : Value} (h : RLoop w1 X Y pb kb nb g5 E on rask stop s L k got sk c gv wr) (h0 : Keeps Nob w w1) (hg : w.heap.size ≤ g5) : Keeps (fun x => x = kb ∨ x = nb) w wr :=
  (h0.mono (fun _ _ h => h.elim)).trans h.keep (fun i hi hm => by
    rcases hm with hm | hm | hm
    · exact .inl hm
    · exact .inr hm
    · omega)
theorem RLoop.ownFar {w1 wr : World} {X Y : Nat → Prop} {pb kb nb g5 : Nat} {E : Env} {on : List Int} {rask : RAsk} {stop : Bool} {s sk : Known} {L : List Int} {k : Nat} {got : List Int} {c : Int} {gv : Value} (h : RLoop w1 X Y pb kb nb g5 E on rask stop s L k got sk c gv wr) : ∀ b, gv.ownBlock = some b → w1.heap.size ≤ b ∧ b < wr.heap.size := fun b hb => by
  refine ⟨?_, (own_lt h.own b hb).1⟩
  rcases h.own.2 with ⟨rfl, _⟩ | ⟨g, cap, cur, rfl, hg, _⟩
  · cases hb
  · simp [Value.ownBlock] at hb; omega
theorem PlainAt.mix {w w2 w7 : World} {X Y : Nat → Prop} {pb kb nb : Nat} {rules : List QRule} {vs on on' : List Int} {s s1 : Known} (h : PlainAt w X Y pb kb nb rules vs on s) (hk : Keeps (fun x => x = kb ∨ x = nb) w w7) (h2 : PlainAt w2 X Y pb kb nb rules vs on' s1) {M : Nat → Prop} (hk2 : Keeps M w2 w7) (h3 : ¬ M kb) (h4 : ¬ M nb) : PlainAt w7 X Y pb kb nb rules vs on' s1 := by
  obtain ⟨⟨rv, iv, hb, hr, hv⟩, ⟨ck, hk1, _⟩, ⟨cn, hn1, _⟩, x1, x2, y1, y2⟩ := h
  have n1 : pb ≠ kb := fun e => by subst e; have := hb.symm.trans hk1; injection this with this; injection this with _ this _; exact absurd this (by decide)
  have n2 : pb ≠ nb := fun e => by subst e; have := hb.symm.trans hn1; injection this with this; injection this with _ this _; exact absurd this (by decide)
  have hX : ∀ b, b < w.heap.size → X b → ¬ (b = kb ∨ b = nb) := fun b _ hx hm => hm.elim (fun e => x1 (e ▸ hx)) (fun e => x2 (e ▸ hx))
  have hY : ∀ b, b < w.heap.size → Y b → ¬ (b = kb ∨ b = nb) := fun b _ hx hm => hm.elim (fun e => y1 (e ▸ hx)) (fun e => y2 (e ▸ hx))
  exact ⟨⟨rv, iv, hk.blk hb (fun hm => hm.elim n1 n2), hr.keep hk hX (fun _ _ h => h), hv.keep hk hY (fun _ _ h => h)⟩, h2.known.keep hk2 h3, h2.open_.keep hk2 h4, x1, x2, y1, y2⟩
theorem own_base {w : World} {base e size n : Nat} {v : Value} {xs : List Value} (h : w.ownsRow base e size v n xs) : w.ownsRow 0 e size v n xs :=
  ⟨h.1, h.2.imp id (fun ⟨g, cap, cur, h1, _, h3⟩ => ⟨g, cap, cur, h1, Nat.zero_le _, h3⟩)⟩
theorem RLoop.next {w1 wr w7 : World} {X Y : Nat → Prop} {pb kb nb g5 : Nat} {E : Env} {on : List Int} {rask : RAsk} {stop : Bool} {s sk s1 : Known} {L : List Int} {k : Nat} {got : List Int} {c m : Int} {gv av7 : Value} {a : RA} (h : RLoop w1 X Y pb kb nb g5 E on rask stop s L k got sk c gv wr) (hlt : k < L.length) (hr : rask sk (L.getD k 0) = (s1, a)) (he : a.e = 0) (hs : ¬ (stop = true ∧ a.n ≠ 0))
    (hv : 0 ≤ a.n ∧ a.n ≤ 1048576) (hm : capM (c + a.cost) = m) (hc : 0 ≤ m ∧ m ≤ 1048576) (hk : Keeps (fun x => (x = kb ∨ x = nb ∨ x = g5) ∨ some x = gv.ownBlock) wr w7) (hp : PlainAt w7 X Y pb kb nb E.rules E.inp on s1) (hkn : KB E.rules.length s1)
    (hown : w7.ownsRow w1.heap.size 3 1 av7 (k + 1) (got.map (Value.int .i64) ++ [.int .i64 a.n])) (ho : w7.heap[g5]? = some (.cells #[.bool false, .int .i64 0, .int .i64 m, .int .i64 0] 80 (0, 0))) :
    RLoop w1 X Y pb kb nb g5 E on rask stop s L (k + 1) (got ++ [a.n]) s1 m av7 w7 := by
  refine ⟨by simp [h.len], fun u hu => ?_, h.keep.trans hk (fun i hi hm => hm.elim id (fun e => absurd hi (by have := (h.ownFar i e.symm).1; omega))), hp, hkn, by simpa using hown, ho, hc, by rw [h.step_eq hlt hr he hs, hm]⟩
  rcases List.mem_append.1 hu with hu | hu
  · exact h.rng u hu
  · rw [List.mem_singleton.1 hu]; exact hv
theorem KeepsLoop {w1 wr : World} {kb nb g5 : Nat} (h : Keeps (fun x => x = kb ∨ x = nb ∨ x = g5) w1 wr) {b : Nat} {o : Obj} (hb : w1.heap[b]? = some o) (h1 : b ≠ kb) (h2 : b ≠ nb) (h3 : b ≠ g5) : wr.heap[b]? = some o :=
  h.blk hb (fun hm => hm.elim h1 (fun hm => hm.elim h2 h3))

set_option maxHeartbeats 4000000 in
/-- All kinds but RuPick. -/
theorem rrule_loop {E : Env} {on : List Int} {rask : RAsk} (IH : RAskOK E on rask) (hG : RGood E.rules.length rask) (w : World) (X Y : Nat → Prop) (pb kb nb : Nat) (s : Known) (asv : Value) (r : QRule) (hr : ROk E.rules.length r) (h1 : r.kind ≠ 1) (h3 : r.kind ≠ 3)
    (hp : PlainAt w X Y pb kb nb E.rules E.inp on s) (hkb : KB E.rules.length s) (hx : IntsX w X asv r.asks) :
    Calls Tryd.prog 55 #[.pointer (some ⟨pb, 0, none⟩), .agg #[.int .i64 r.kind, .int .i64 r.n, asv]] w (RAns w X Y pb kb nb E on (rRule rask s r)) := by
  obtain ⟨RR, hRR⟩ : ∃ x, rRule rask s r = x := ⟨_, rfl⟩
  rw [hRR]
  unfold rRule at hRR
  rw [if_neg h3] at hRR
  have HRR := Lib.hid hRR
  have Hans := Lib.hid (fun (av sv : Value) (got : List Int) (w : World) (X X' : Nat → Prop) => Answer_any hr h1 h3 (av := av) (sv := sv) (got := got) (w := w) (X := X) (X' := X'))
  have hl12 := hr.l12
  have Hq := Lib.hid hr.asks
  obtain ⟨K, N, asks⟩ := r
  simp only at hl12 h1 h3
  obtain ⟨A, ac, rfl, -, -⟩ := id hx
  have hk3 : (K == 3) = false := by simpa using h3
  obtain ⟨b4, hb4⟩ : ∃ b, (K == 4) = b := ⟨_, rfl⟩
  obtain ⟨i80, hi80, hs80⟩ := info80
  obtain ⟨i3, hi3, hs3⟩ := infoS3
  have HI := Lib.hid (And.intro (And.intro hi80 hs80) (And.intro hi3 hs3))
  have Hp := Lib.hid hp
  have Hx := Lib.hid hx
  have HK := Lib.hid hkb
  have HIH := Lib.hid IH
  have HG := Lib.hid hG
  clear hRR hr hp hx hkb IH hG h1 h3 hi80 hs80 hi3 hs3
  go_enter Tryd.func55, Tryd.ntmps55
  go_wp2_with (first
    | ((with_reducible refine at_dst (N := 3) rfl ?_); go_must (refine ev_box (cs := #[.int .i64 K, .int .i64 N, .slice A asks.length ac]) rfl rfl rfl ?_; intro g3 wa hg3 hl3 hb3 hka); have Hb3 := Lib.hid hb3; have f2 := (blk_cell hb3 2).trans rfl; clear hb3; (try simp only [Act.put, List.setIfInBounds_toArray, List.set_cons_zero, List.set_cons_succ]))
    | ((with_reducible refine at_dst (N := 4) rfl ?_); go_must (refine ev_alloc rfl rfl zero80 rfl ?_; intro g4 wb hg4 hl4 hb4' hkb); have Hb4 := Lib.hid hb4'; have f2 := hkb.cell f2 id; clear hb4'; (try simp only [Act.put, List.setIfInBounds_toArray, List.set_cons_zero, List.set_cons_succ]))
    | ((with_reducible refine at_dst (N := 5) rfl ?_); go_must (refine ev_alloc rfl rfl zero80 rfl ?_; intro g5 wc hg5 hl5 hb5 hkc); have Hb5 := Lib.hid hb5; have f2 := hkc.cell f2 id; clear hb5; (try simp only [Act.put, List.setIfInBounds_toArray, List.set_cons_zero, List.set_cons_succ]))
    | ((with_reducible refine at_store (t := 80) (p := 5) rfl ?_); go_must (refine ev_store (cs' := #[.bool false, .int .i64 0, .int .i64 1, .int .i64 0]) rfl rfl rfl rfl rfl rfl HI.out.1.1 HI.out.1.2 rfl Hb5.out (Nat.le_of_ble_eq_true rfl) rfl ?_; intro w1 hb5' hkd); have Hb51 := Lib.hid hb5'; have f2 := hkd.cell f2 (by show ¬ g3 = g5; omega); clear hb5'; (try simp only [Act.put, List.setIfInBounds_toArray, List.set_cons_zero, List.set_cons_succ])))
  have hk01 : Keeps Nob w w1 := (((hka.trans hkb (fun _ _ h => h)).trans hkc (fun _ _ h => h)).own hkd (by have := hka.size; have := hkb.size; omega))
  have z1 := hka.size
  have z2 := hkb.size
  have z3 := hkc.size
  have z4 := hkd.size
  obtain ⟨lkb, lnb⟩ := Hp.out.lts
  have Hb31 := Lib.hid (hkd.blk (hkc.blk (hkb.blk Hb3.out id) id) (by show ¬ g3 = g5; omega))
  have Hb41 := Lib.hid (hkd.blk (hkc.blk Hb4.out id) (by show ¬ g4 = g5; omega))
  have Hg := Lib.hid (show (w.heap.size ≤ g3 ∧ g3 < g4 ∧ g4 < g5 ∧ g5 < w1.heap.size) ∧ (kb < w.heap.size ∧ nb < w.heap.size) from ⟨⟨hg3, by omega, by omega, by omega⟩, lkb, lnb⟩)
  have Hk01 := Lib.hid hk01
  have Hst0 := Lib.hid (RLoop.start (rask := rask) (stop := K == 4) (L := asks) (g5 := g5) (Hp.out.keep hk01) HK.out Hb51.out)
  clear hk01 hka hkb hkc hkd lkb lnb z1 z2 z3 z4 hg3 hg4 hg5 hl3 hl4 hl5 Hb3 Hb4 Hb5 Hb51
  go_loopw [6, 15] (fun gv v wr => ∃ (k : Nat) (got : List Int) (sk : Known) (c : Int), v = .int .i64 k ∧ k ≤ asks.length ∧ Hid (RLoop w1 X Y pb kb nb g5 E on rask (K == 4) s asks k got sk c gv wr))
    (fun _ v _ => asks.length - (intOf v).toNat)
  case atStart => exact ⟨0, [], s, 1, rfl, Nat.zero_le _, Hst0⟩
  case round =>
    obtain ⟨k, got, sk, c, rfl, hk, hst⟩ := hrel
    have HKw := Lib.hid (hst.out.keepW Hk01.out (by have := Hg.out; omega))
    have hb3r := KeepsLoop hst.out.keep Hb31.out (by have := Hg.out; omega) (by have := Hg.out; omega) (by have := Hg.out; omega)
    have Hb3r := Lib.hid hb3r
    have Hb4r := Lib.hid (KeepsLoop hst.out.keep Hb41.out (by have := Hg.out; omega) (by have := Hg.out; omega) (by have := Hg.out; omega))
    by_cases hlt : k < asks.length
    · have hx1 := Hx.out.keep (X' := X) HKw.out (fun b _ hb hm => hm.elim (fun e => Hp.out.xk (e ▸ hb)) (fun e => Hp.out.xn (e ▸ hb))) (fun _ _ h => h)
      obtain ⟨b, o, rfl, _, _⟩ := (by obtain ⟨A', c', h1, _, h3⟩ := Hx.out; injection h1 with h1 _ _; subst h1; exact h3 k hlt : ∃ b o, A = some ⟨b, o, none⟩ ∧ X b ∧ w.cell? ⟨b, o + k, none⟩ = some (.int .i64 (asks.getD k 0)))
      have hcw := hx1.cellAt hlt
      obtain ⟨q, Hqd⟩ : ∃ q, Hid (asks.getD k 0 = q) := ⟨_, rfl⟩
      rw [Hqd.out] at hcw
      have hqq := Hq.out _ (getD_mem hlt)
      have hgood := HG.out sk (asks.getD k 0) hst.out.kn hqq
      have hrun := HIH.out wr X Y pb kb nb sk (asks.getD k 0) hst.out.pa hst.out.kn hqq
      rcases hr : rask sk (asks.getD k 0) with ⟨s1, a⟩
      rw [hr] at hgood hrun
      have Hr := Lib.hid hr
      obtain ⟨an, ac1, ae⟩ := a
      simp only at hgood
      rw [Hqd.out] at hrun
      obtain ⟨hgk, ⟨hc0, hc1⟩, hgn⟩ := hgood
      have Hgk := Lib.hid hgk
      have Hgn := Lib.hid hgn
      have Hrun := Lib.hid hrun
      obtain ⟨c0, c1⟩ := hst.out.c01
      have hw : IntKind.i64.wrap (c + ac1) = c + ac1 := IntWalk.i64_in _ (by omega)
      have f0 := (blk_cell hb3r 0).trans rfl
      clear hr hgk hgn hrun hx1 hb3r hqq
      obtain ⟨m, hm⟩ : ∃ m, capM (c + ac1) = m := ⟨_, rfl⟩
      have hm01 := capM_range (c := c + ac1) (by omega)
      rw [hm] at hm01
      obtain ⟨m0, m1⟩ := hm01
      have Hm := Lib.hid hm
      clear hm
      have Hf := Lib.hid hst.out.own
      have Hof := Lib.hid (hst.out.ownFar)
      by_cases hae : ae = 0
      · have haeb : (ae != 0) = false := by simp [hae]
        have Hae := Lib.hid hae
        clear hae
        obtain ⟨n0, n1⟩ := Hgn.out Hae.out
        by_cases hst4 : K = 4 ∧ an ≠ 0
        · obtain ⟨hK4, han⟩ := hst4
          have hanb : (an != 0) = true := by simpa using han
          have hb4t : (K == 4) = true := by simpa using hK4
          have Han := Lib.hid han
          have HK4 := Lib.hid hK4
          clear han hb4 hK4
          go_wp2_with (first
            | (go_at_call 35; go_must (refine Hrun.out.mono ?_; rintro e w2 ⟨⟨b9, rfl⟩, hk2, hp2⟩); have Hp2 := Lib.hid hp2; clear hp2; (try simp only [Act.put, List.setIfInBounds_toArray, List.set_cons_zero, List.set_cons_succ]))
            | ((with_reducible refine at_dst (N := 9) rfl ?_); go_must (refine ev_alloc rfl rfl zero80 rfl ?_; intro g9 w3 hg9 hl9 hb9 hk3'); have Hb9 := Lib.hid hb9; clear hb9; (try simp only [Act.put, List.setIfInBounds_toArray, List.set_cons_zero, List.set_cons_succ]))
            | ((with_reducible refine at_store (t := 80) (p := 9) rfl ?_); go_must (refine ev_store (cs' := #[.bool b9, .int .i64 an, .int .i64 ac1, .int .i64 ae]) rfl rfl rfl rfl rfl rfl HI.out.1.1 HI.out.1.2 rfl Hb9.out (Nat.le_of_ble_eq_true rfl) rfl ?_; intro w4 hb94 hk4); have Hb94 := Lib.hid hb94; clear hb94
               have e1 := (blk_cell Hb94.out 1).trans rfl
               have e2 := (blk_cell Hb94.out 2).trans rfl
               have e3 := (blk_cell Hb94.out 3).trans rfl
               have lg5 : g5 < w3.heap.size := by have := Hg.out; have := hst.out.keep.size; have := hk2.size; have := hk3'.size; omega
               have hb54 := hk4.blk (hk3'.blk (hk2.blk hst.out.out (by have := Hg.out; show ¬ (g5 = kb ∨ g5 = nb); omega)) id) (by have := Hg.out; have := hst.out.keep.size; have := hk2.size; show ¬ g5 = g9; omega)
               have Hb54 := Lib.hid hb54
               have d2 := (blk_cell hb54 2).trans rfl
               clear hb54
               (try simp only [Act.put, List.setIfInBounds_toArray, List.set_cons_zero, List.set_cons_succ]))
            | ((with_reducible refine at_dst (N := 35) rfl ?_); go_must (refine ev_min rfl rfl (p := c + ac1) (q := 1048576) rfl rfl (capM_min Hm.out) ?_); (try simp only [Act.put, List.setIfInBounds_toArray, List.set_cons_zero, List.set_cons_succ]))
            | ((with_reducible refine at_store (t := 3) (p := 36) rfl ?_); go_must (refine ev_store (cs' := #[.bool false, .int .i64 0, .int .i64 m, .int .i64 0]) rfl rfl rfl rfl rfl rfl HI.out.2.1 HI.out.2.2 rfl Hb54.out (Nat.le_of_ble_eq_true rfl) rfl ?_; intro w5 hb55 hk5); have Hb55 := Lib.hid hb55; clear hb55
               have e1 := hk5.cell e1 (by have := Hg.out; have := hst.out.keep.size; have := hk2.size; show ¬ g9 = g5; omega)
               have d2 := (blk_cell Hb55.out 2).trans rfl
               have e3 := hk5.cell e3 (by have := Hg.out; have := hst.out.keep.size; have := hk2.size; show ¬ g9 = g5; omega)
               (try simp only [Act.put, List.setIfInBounds_toArray, List.set_cons_zero, List.set_cons_succ]))
            | ((with_reducible refine at_dst (N := 48) rfl ?_); go_must (refine ev_slice (cs := #[.int .i64 an]) (t := 3) (n := 1) (c := 1) rfl (by first | (go_simp; done) | (go_simp; rfl)) ?_; intro g6 w6 hg6 hl6 hb6 hk6); have Hb6 := Lib.hid hb6; clear hb6
               have hk36 : Keeps (fun x => x = kb ∨ x = nb ∨ x = g5) wr w6 := ((((hk2.mono (fun _ _ h => h.imp id .inl)).trans hk3' (fun _ _ h => h.elim)).own hk4 (by have := hk2.size; omega)).into hk5 (.inr (.inr rfl))).trans hk6 (fun _ _ h => h.elim)
               have HK36 := Lib.hid hk36
               clear hk36
               (try simp only [Act.put, List.setIfInBounds_toArray, List.set_cons_zero, List.set_cons_succ]))
            | ((with_reducible refine at_dst (N := 49) rfl ?_); go_must (refine ev_append (W := w6) rfl rfl Tryd.underlying23 info3 rfl (by decide) (base := w1.heap.size) rfl (ownsRow_keep Hf.out HK36.out (fun b hb hm => by have := (Hof.out b hb); have := Hg.out; rcases hm with hm | hm | hm <;> omega)) (news := [.int .i64 an]) rfl rfl (fun _ => ⟨_, rfl, World.news_of_block Hb6.out⟩) (by simp [Value.oneCell']) (by omega) (by decide) (by have := hst.out.keep.size; have := HK36.out.size; omega) ?_; intro av7 w7 hown7 hk7 hr7 hf7); go_must (have Hown7 := Lib.hid hown7; have Hr7 := Lib.hid hr7; clear hown7 hf7 hr7); go_must (have e1 := hk7.cell (hk6.cell e1 id) (fun e => by have := (Hof.out g9 e.symm).2; have := hk2.size; have := hg9; omega))
               have hnk : ∀ g, g < w1.heap.size → g ≠ kb → g ≠ nb → ¬ (some g = Value.ownBlock u6) ∧ (g ≠ g5 → ¬ (g = kb ∨ g = nb ∨ g = g5)) := fun g hg h1 h2 => ⟨fun e => by have := (Hof.out g e.symm).1; omega, fun h3 hm => hm.elim h1 (fun hm => hm.elim h2 h3)⟩
               go_must (have hb37 := hk7.blk (HK36.out.blk Hb3r.out ((hnk g3 (by have := Hg.out; omega) (by have := Hg.out; omega) (by have := Hg.out; omega)).2 (by have := Hg.out; omega))) (hnk g3 (by have := Hg.out; omega) (by have := Hg.out; omega) (by have := Hg.out; omega)).1)
               go_must (have hb47 := hk7.blk (HK36.out.blk Hb4r.out ((hnk g4 (by have := Hg.out; omega) (by have := Hg.out; omega) (by have := Hg.out; omega)).2 (by have := Hg.out; omega))) (hnk g4 (by have := Hg.out; omega) (by have := Hg.out; omega) (by have := Hg.out; omega)).1)
               go_must (have hb57 := hk7.blk (hk6.blk Hb55.out id) (hnk g5 (by have := Hg.out; omega) (by have := Hg.out; omega) (by have := Hg.out; omega)).1)
               have f0 := (blk_cell hb37 0).trans rfl
               have f1 := (blk_cell hb37 1).trans rfl
               have f2 := (blk_cell hb37 2).trans rfl
               go_must (have hkw7 : Keeps (fun x => x = kb ∨ x = nb) w w7 := (HKw.out.trans HK36.out (fun i hi hm => by have := Hg.out; rcases hm with hm | hm | hm; exact .inl hm; exact .inr hm; omega)).trans hk7 (fun i hi e => by have := (Hof.out i e.symm).1; have := Hg.out; have := Hk01.out.size; omega))
               go_must (have hp7 := Hp.out.mix hkw7 Hp2.out ((((hk3'.mono (M' := fun x => x = g5 ∨ some x = Value.ownBlock u6) (fun _ _ h => h.elim)).own hk4 hg9).into hk5 (.inl rfl)).trans ((hk6.mono (M' := fun x => some x = Value.ownBlock u6) (fun _ _ h => h.elim)).trans hk7 (fun _ _ h => h)) (fun _ _ h => .inr h)) (fun hm => by have := Hg.out; rcases hm with hm | hm; omega; have := (Hof.out kb hm.symm).1; omega) (fun hm => by have := Hg.out; rcases hm with hm | hm; omega; have := (Hof.out nb hm.symm).1; omega))
               have HKw7 := Lib.hid hkw7
               have Hp7 := Lib.hid hp7
               have Hk37 := Lib.hid (show Keeps (fun x => (x = kb ∨ x = nb ∨ x = g5) ∨ some x = Value.ownBlock u6) wr w7 from (HK36.out.mono (fun _ _ h => .inl h)).trans hk7 (fun _ _ h => .inr h))
               clear hkw7 hp7
               have Hb37 := Lib.hid hb37
               have Hb47 := Lib.hid hb47
               have Hb57 := Lib.hid hb57
               clear hb37 hb47 hb57 hnk
               (try simp only [Act.put, List.setIfInBounds_toArray, List.set_cons_zero, List.set_cons_succ]))
            | (go_at_call 64
               go_must (have hanz := Hans.out _ _ (got ++ [an]) w7 (fun _ => True) X (Hx.out.keep HKw7.out (fun b _ hb hm => hm.elim (fun e => Hp.out.xk (e ▸ hb)) (fun e => Hp.out.xn (e ▸ hb))) (fun _ _ h => h)) (IntsX.own (xs := got ++ [an]) (by have h := own_base Hown7.out; simpa [hst.out.len] using h) _ (fun _ _ => trivial)) (by simp [hst.out.len]; omega) (fun v hv => (List.mem_append.1 hv).elim (fun h => hst.out.rng v h) (fun h => by rw [List.mem_singleton.1 h]; exact ⟨n0, n1⟩)) (fun h => absurd HK4.out h))
               obtain ⟨an_, Han_⟩ : ∃ x, Hid (answerOf ⟨K, N, asks⟩ (got ++ [an]) = x) := ⟨_, Lib.hid rfl⟩
               rw [Han_.out] at hanz
               go_must (refine hanz.mono ?_; rintro e w8 ⟨rfl, hk8⟩); have Hbo8 := Lib.hid (hk8.blk Hb57.out id); have Hbr8 := Lib.hid (hk8.blk Hb47.out id); (try simp only [Act.put, List.setIfInBounds_toArray, List.set_cons_zero, List.set_cons_succ]))
            | ((with_reducible refine at_store (t := 3) (p := 91) rfl ?_); go_must (refine ev_store (cs' := #[.bool false, .int .i64 an_, .int .i64 m, .int .i64 0]) rfl rfl rfl rfl rfl rfl HI.out.2.1 HI.out.2.2 rfl Hbo8.out (Nat.le_of_ble_eq_true rfl) rfl ?_; intro w9 hb9 hk9); have q0 := (blk_cell hb9 0).trans rfl; have q1 := (blk_cell hb9 1).trans rfl; have q2 := (blk_cell hb9 2).trans rfl; have q3 := (blk_cell hb9 3).trans rfl; clear hb9; (try simp only [Act.put, List.setIfInBounds_toArray, List.set_cons_zero, List.set_cons_succ]))
            | ((with_reducible refine at_store (t := 80) (p := 4) rfl ?_); go_must (refine ev_store (cs' := #[.bool false, .int .i64 an_, .int .i64 m, .int .i64 0]) rfl rfl rfl rfl rfl rfl HI.out.1.1 HI.out.1.2 rfl (hk9.blk Hbr8.out (by have := Hg.out; show ¬ g4 = g5; omega)) (Nat.le_of_ble_eq_true rfl) rfl ?_; intro w10 hb10 hk10); (try simp only [Act.put, List.setIfInBounds_toArray, List.set_cons_zero, List.set_cons_succ]))
          )
          have q0 := (blk_cell hb10 0).trans rfl
          have q1 := (blk_cell hb10 1).trans rfl
          have q2 := (blk_cell hb10 2).trans rfl
          have q3 := (blk_cell hb10 3).trans rfl
          refine bodyPost_ret (v := .agg #[.bool false, .int .i64 an_, .int .i64 m, .int .i64 0]) (by rw [results_cell1 rfl]; go_simp) rfl ?_
          have hst' := hst.out
          rw [hb4t] at hst'
          have hRR := HRR.out
          rw [hb4t, hst'.stop_ hlt Hr.out Hae.out Han.out] at hRR
          simp only [Hm.out, Han_.out] at hRR
          rw [← hRR]
          have hkw10 : Keeps (fun x => x = kb ∨ x = nb) w w10 := ((HKw7.out.trans hk8 (fun _ _ h => h.elim)).own hk9 (by have := Hg.out; omega)).own hk10 (by have := Hg.out; omega)
          exact ⟨⟨false, rfl⟩, hkw10, Hp.out.mix hkw10 Hp7.out (((hk8.mono (M' := fun x => x = g5 ∨ x = g4) (fun _ _ h => h.elim)).into hk9 (.inl rfl)).into hk10 (.inr rfl)) (by have := Hg.out; show ¬ (kb = g5 ∨ kb = g4); omega) (by have := Hg.out; show ¬ (nb = g5 ∨ nb = g4); omega)⟩
        · have Hst4 := Lib.hid hst4
          have key : (K == 4) = false ∨ (K == 4) = true ∧ (an != 0) = false := by
            by_cases h4 : K = 4
            · right; refine ⟨by simpa using h4, ?_⟩
              have : an = 0 := by by_cases h : an = 0; exact h; exact absurd ⟨h4, h⟩ hst4
              simp [this]
            · left; simpa using h4
          have Hkey := Lib.hid key
          clear key hst4 hb4
          obtain ⟨b4', hb4⟩ : ∃ b, (K == 4) = b := ⟨_, rfl⟩
          have Hb4' := Lib.hid hb4
          cases b4' with
          | false =>
            go_wp2_with (first
              | (go_at_call 35; go_must (refine Hrun.out.mono ?_; rintro e w2 ⟨⟨b9, rfl⟩, hk2, hp2⟩); have Hp2 := Lib.hid hp2; clear hp2; (try simp only [Act.put, List.setIfInBounds_toArray, List.set_cons_zero, List.set_cons_succ]))
              | ((with_reducible refine at_dst (N := 9) rfl ?_); go_must (refine ev_alloc rfl rfl zero80 rfl ?_; intro g9 w3 hg9 hl9 hb9 hk3'); have Hb9 := Lib.hid hb9; clear hb9; (try simp only [Act.put, List.setIfInBounds_toArray, List.set_cons_zero, List.set_cons_succ]))
              | ((with_reducible refine at_store (t := 80) (p := 9) rfl ?_); go_must (refine ev_store (cs' := #[.bool b9, .int .i64 an, .int .i64 ac1, .int .i64 ae]) rfl rfl rfl rfl rfl rfl HI.out.1.1 HI.out.1.2 rfl Hb9.out (Nat.le_of_ble_eq_true rfl) rfl ?_; intro w4 hb94 hk4); have Hb94 := Lib.hid hb94; clear hb94
                 have e1 := (blk_cell Hb94.out 1).trans rfl
                 have e2 := (blk_cell Hb94.out 2).trans rfl
                 have e3 := (blk_cell Hb94.out 3).trans rfl
                 have lg5 : g5 < w3.heap.size := by have := Hg.out; have := hst.out.keep.size; have := hk2.size; have := hk3'.size; omega
                 have hb54 := hk4.blk (hk3'.blk (hk2.blk hst.out.out (by have := Hg.out; show ¬ (g5 = kb ∨ g5 = nb); omega)) id) (by have := Hg.out; have := hst.out.keep.size; have := hk2.size; show ¬ g5 = g9; omega)
                 have Hb54 := Lib.hid hb54
                 have d2 := (blk_cell hb54 2).trans rfl
                 clear hb54
                 (try simp only [Act.put, List.setIfInBounds_toArray, List.set_cons_zero, List.set_cons_succ]))
              | ((with_reducible refine at_dst (N := 35) rfl ?_); go_must (refine ev_min rfl rfl (p := c + ac1) (q := 1048576) rfl rfl (capM_min Hm.out) ?_); (try simp only [Act.put, List.setIfInBounds_toArray, List.set_cons_zero, List.set_cons_succ]))
              | ((with_reducible refine at_store (t := 3) (p := 36) rfl ?_); go_must (refine ev_store (cs' := #[.bool false, .int .i64 0, .int .i64 m, .int .i64 0]) rfl rfl rfl rfl rfl rfl HI.out.2.1 HI.out.2.2 rfl Hb54.out (Nat.le_of_ble_eq_true rfl) rfl ?_; intro w5 hb55 hk5); have Hb55 := Lib.hid hb55; clear hb55
                 have e1 := hk5.cell e1 (by have := Hg.out; have := hst.out.keep.size; have := hk2.size; show ¬ g9 = g5; omega)
                 have d2 := (blk_cell Hb55.out 2).trans rfl
                 have e3 := hk5.cell e3 (by have := Hg.out; have := hst.out.keep.size; have := hk2.size; show ¬ g9 = g5; omega)
                 (try simp only [Act.put, List.setIfInBounds_toArray, List.set_cons_zero, List.set_cons_succ]))
              | ((with_reducible refine at_dst (N := 48) rfl ?_); go_must (refine ev_slice (cs := #[.int .i64 an]) (t := 3) (n := 1) (c := 1) rfl (by first | (go_simp; done) | (go_simp; rfl)) ?_; intro g6 w6 hg6 hl6 hb6 hk6); have Hb6 := Lib.hid hb6; clear hb6
                 have hk36 : Keeps (fun x => x = kb ∨ x = nb ∨ x = g5) wr w6 := ((((hk2.mono (fun _ _ h => h.imp id .inl)).trans hk3' (fun _ _ h => h.elim)).own hk4 (by have := hk2.size; omega)).into hk5 (.inr (.inr rfl))).trans hk6 (fun _ _ h => h.elim)
                 have HK36 := Lib.hid hk36
                 clear hk36
                 (try simp only [Act.put, List.setIfInBounds_toArray, List.set_cons_zero, List.set_cons_succ]))
              | ((with_reducible refine at_dst (N := 49) rfl ?_); go_must (refine ev_append (W := w6) rfl rfl Tryd.underlying23 info3 rfl (by decide) (base := w1.heap.size) rfl (ownsRow_keep Hf.out HK36.out (fun b hb hm => by have := (Hof.out b hb); have := Hg.out; rcases hm with hm | hm | hm <;> omega)) (news := [.int .i64 an]) rfl rfl (fun _ => ⟨_, rfl, World.news_of_block Hb6.out⟩) (by simp [Value.oneCell']) (by omega) (by decide) (by have := hst.out.keep.size; have := HK36.out.size; omega) ?_; intro av7 w7 hown7 hk7 hr7 hf7); go_must (have Hown7 := Lib.hid hown7; have Hr7 := Lib.hid hr7; clear hown7 hf7 hr7); go_must (have e1 := hk7.cell (hk6.cell e1 id) (fun e => by have := (Hof.out g9 e.symm).2; have := hk2.size; have := hg9; omega))
                 have hnk : ∀ g, g < w1.heap.size → g ≠ kb → g ≠ nb → ¬ (some g = Value.ownBlock u6) ∧ (g ≠ g5 → ¬ (g = kb ∨ g = nb ∨ g = g5)) := fun g hg h1 h2 => ⟨fun e => by have := (Hof.out g e.symm).1; omega, fun h3 hm => hm.elim h1 (fun hm => hm.elim h2 h3)⟩
                 go_must (have hb37 := hk7.blk (HK36.out.blk Hb3r.out ((hnk g3 (by have := Hg.out; omega) (by have := Hg.out; omega) (by have := Hg.out; omega)).2 (by have := Hg.out; omega))) (hnk g3 (by have := Hg.out; omega) (by have := Hg.out; omega) (by have := Hg.out; omega)).1)
                 go_must (have hb47 := hk7.blk (HK36.out.blk Hb4r.out ((hnk g4 (by have := Hg.out; omega) (by have := Hg.out; omega) (by have := Hg.out; omega)).2 (by have := Hg.out; omega))) (hnk g4 (by have := Hg.out; omega) (by have := Hg.out; omega) (by have := Hg.out; omega)).1)
                 go_must (have hb57 := hk7.blk (hk6.blk Hb55.out id) (hnk g5 (by have := Hg.out; omega) (by have := Hg.out; omega) (by have := Hg.out; omega)).1)
                 have f0 := (blk_cell hb37 0).trans rfl
                 have f1 := (blk_cell hb37 1).trans rfl
                 have f2 := (blk_cell hb37 2).trans rfl
                 go_must (have hkw7 : Keeps (fun x => x = kb ∨ x = nb) w w7 := (HKw.out.trans HK36.out (fun i hi hm => by have := Hg.out; rcases hm with hm | hm | hm; exact .inl hm; exact .inr hm; omega)).trans hk7 (fun i hi e => by have := (Hof.out i e.symm).1; have := Hg.out; have := Hk01.out.size; omega))
                 go_must (have hp7 := Hp.out.mix hkw7 Hp2.out ((((hk3'.mono (M' := fun x => x = g5 ∨ some x = Value.ownBlock u6) (fun _ _ h => h.elim)).own hk4 hg9).into hk5 (.inl rfl)).trans ((hk6.mono (M' := fun x => some x = Value.ownBlock u6) (fun _ _ h => h.elim)).trans hk7 (fun _ _ h => h)) (fun _ _ h => .inr h)) (fun hm => by have := Hg.out; rcases hm with hm | hm; omega; have := (Hof.out kb hm.symm).1; omega) (fun hm => by have := Hg.out; rcases hm with hm | hm; omega; have := (Hof.out nb hm.symm).1; omega))
                 have HKw7 := Lib.hid hkw7
                 have Hp7 := Lib.hid hp7
                 have Hk37 := Lib.hid (show Keeps (fun x => (x = kb ∨ x = nb ∨ x = g5) ∨ some x = Value.ownBlock u6) wr w7 from (HK36.out.mono (fun _ _ h => .inl h)).trans hk7 (fun _ _ h => .inr h))
                 clear hkw7 hp7
                 have Hb37 := Lib.hid hb37
                 have Hb47 := Lib.hid hb47
                 have Hb57 := Lib.hid hb57
                 clear hb37 hb47 hb57 hnk
                 (try simp only [Act.put, List.setIfInBounds_toArray, List.set_cons_zero, List.set_cons_succ]))
            )
            refine ⟨⟨k + 1, got ++ [an], s1, m, by go_num, by omega, Lib.hid (hst.out.next hlt Hr.out Hae.out (fun h => by rw [hb4] at h; exact absurd h.1 (by decide)) ⟨n0, n1⟩ Hm.out ⟨m0, m1⟩ Hk37.out Hp7.out Hgk.out Hown7.out Hb57.out)⟩, by simp [intOf]; omega⟩
          | true =>
            have hanb : (an != 0) = false := by
              rcases Hkey.out with h | h
              · rw [hb4] at h; cases h
              · exact h.2
            go_wp2_with (first
              | (go_at_call 35; go_must (refine Hrun.out.mono ?_; rintro e w2 ⟨⟨b9, rfl⟩, hk2, hp2⟩); have Hp2 := Lib.hid hp2; clear hp2; (try simp only [Act.put, List.setIfInBounds_toArray, List.set_cons_zero, List.set_cons_succ]))
              | ((with_reducible refine at_dst (N := 9) rfl ?_); go_must (refine ev_alloc rfl rfl zero80 rfl ?_; intro g9 w3 hg9 hl9 hb9 hk3'); have Hb9 := Lib.hid hb9; clear hb9; (try simp only [Act.put, List.setIfInBounds_toArray, List.set_cons_zero, List.set_cons_succ]))
              | ((with_reducible refine at_store (t := 80) (p := 9) rfl ?_); go_must (refine ev_store (cs' := #[.bool b9, .int .i64 an, .int .i64 ac1, .int .i64 ae]) rfl rfl rfl rfl rfl rfl HI.out.1.1 HI.out.1.2 rfl Hb9.out (Nat.le_of_ble_eq_true rfl) rfl ?_; intro w4 hb94 hk4); have Hb94 := Lib.hid hb94; clear hb94
                 have e1 := (blk_cell Hb94.out 1).trans rfl
                 have e2 := (blk_cell Hb94.out 2).trans rfl
                 have e3 := (blk_cell Hb94.out 3).trans rfl
                 have lg5 : g5 < w3.heap.size := by have := Hg.out; have := hst.out.keep.size; have := hk2.size; have := hk3'.size; omega
                 have hb54 := hk4.blk (hk3'.blk (hk2.blk hst.out.out (by have := Hg.out; show ¬ (g5 = kb ∨ g5 = nb); omega)) id) (by have := Hg.out; have := hst.out.keep.size; have := hk2.size; show ¬ g5 = g9; omega)
                 have Hb54 := Lib.hid hb54
                 have d2 := (blk_cell hb54 2).trans rfl
                 clear hb54
                 (try simp only [Act.put, List.setIfInBounds_toArray, List.set_cons_zero, List.set_cons_succ]))
              | ((with_reducible refine at_dst (N := 35) rfl ?_); go_must (refine ev_min rfl rfl (p := c + ac1) (q := 1048576) rfl rfl (capM_min Hm.out) ?_); (try simp only [Act.put, List.setIfInBounds_toArray, List.set_cons_zero, List.set_cons_succ]))
              | ((with_reducible refine at_store (t := 3) (p := 36) rfl ?_); go_must (refine ev_store (cs' := #[.bool false, .int .i64 0, .int .i64 m, .int .i64 0]) rfl rfl rfl rfl rfl rfl HI.out.2.1 HI.out.2.2 rfl Hb54.out (Nat.le_of_ble_eq_true rfl) rfl ?_; intro w5 hb55 hk5); have Hb55 := Lib.hid hb55; clear hb55
                 have e1 := hk5.cell e1 (by have := Hg.out; have := hst.out.keep.size; have := hk2.size; show ¬ g9 = g5; omega)
                 have d2 := (blk_cell Hb55.out 2).trans rfl
                 have e3 := hk5.cell e3 (by have := Hg.out; have := hst.out.keep.size; have := hk2.size; show ¬ g9 = g5; omega)
                 (try simp only [Act.put, List.setIfInBounds_toArray, List.set_cons_zero, List.set_cons_succ]))
              | ((with_reducible refine at_dst (N := 48) rfl ?_); go_must (refine ev_slice (cs := #[.int .i64 an]) (t := 3) (n := 1) (c := 1) rfl (by first | (go_simp; done) | (go_simp; rfl)) ?_; intro g6 w6 hg6 hl6 hb6 hk6); have Hb6 := Lib.hid hb6; clear hb6
                 have hk36 : Keeps (fun x => x = kb ∨ x = nb ∨ x = g5) wr w6 := ((((hk2.mono (fun _ _ h => h.imp id .inl)).trans hk3' (fun _ _ h => h.elim)).own hk4 (by have := hk2.size; omega)).into hk5 (.inr (.inr rfl))).trans hk6 (fun _ _ h => h.elim)
                 have HK36 := Lib.hid hk36
                 clear hk36
                 (try simp only [Act.put, List.setIfInBounds_toArray, List.set_cons_zero, List.set_cons_succ]))
              | ((with_reducible refine at_dst (N := 49) rfl ?_); go_must (refine ev_append (W := w6) rfl rfl Tryd.underlying23 info3 rfl (by decide) (base := w1.heap.size) rfl (ownsRow_keep Hf.out HK36.out (fun b hb hm => by have := (Hof.out b hb); have := Hg.out; rcases hm with hm | hm | hm <;> omega)) (news := [.int .i64 an]) rfl rfl (fun _ => ⟨_, rfl, World.news_of_block Hb6.out⟩) (by simp [Value.oneCell']) (by omega) (by decide) (by have := hst.out.keep.size; have := HK36.out.size; omega) ?_; intro av7 w7 hown7 hk7 hr7 hf7); go_must (have Hown7 := Lib.hid hown7; have Hr7 := Lib.hid hr7; clear hown7 hf7 hr7); go_must (have e1 := hk7.cell (hk6.cell e1 id) (fun e => by have := (Hof.out g9 e.symm).2; have := hk2.size; have := hg9; omega))
                 have hnk : ∀ g, g < w1.heap.size → g ≠ kb → g ≠ nb → ¬ (some g = Value.ownBlock u6) ∧ (g ≠ g5 → ¬ (g = kb ∨ g = nb ∨ g = g5)) := fun g hg h1 h2 => ⟨fun e => by have := (Hof.out g e.symm).1; omega, fun h3 hm => hm.elim h1 (fun hm => hm.elim h2 h3)⟩
                 go_must (have hb37 := hk7.blk (HK36.out.blk Hb3r.out ((hnk g3 (by have := Hg.out; omega) (by have := Hg.out; omega) (by have := Hg.out; omega)).2 (by have := Hg.out; omega))) (hnk g3 (by have := Hg.out; omega) (by have := Hg.out; omega) (by have := Hg.out; omega)).1)
                 go_must (have hb47 := hk7.blk (HK36.out.blk Hb4r.out ((hnk g4 (by have := Hg.out; omega) (by have := Hg.out; omega) (by have := Hg.out; omega)).2 (by have := Hg.out; omega))) (hnk g4 (by have := Hg.out; omega) (by have := Hg.out; omega) (by have := Hg.out; omega)).1)
                 go_must (have hb57 := hk7.blk (hk6.blk Hb55.out id) (hnk g5 (by have := Hg.out; omega) (by have := Hg.out; omega) (by have := Hg.out; omega)).1)
                 have f0 := (blk_cell hb37 0).trans rfl
                 have f1 := (blk_cell hb37 1).trans rfl
                 have f2 := (blk_cell hb37 2).trans rfl
                 go_must (have hkw7 : Keeps (fun x => x = kb ∨ x = nb) w w7 := (HKw.out.trans HK36.out (fun i hi hm => by have := Hg.out; rcases hm with hm | hm | hm; exact .inl hm; exact .inr hm; omega)).trans hk7 (fun i hi e => by have := (Hof.out i e.symm).1; have := Hg.out; have := Hk01.out.size; omega))
                 go_must (have hp7 := Hp.out.mix hkw7 Hp2.out ((((hk3'.mono (M' := fun x => x = g5 ∨ some x = Value.ownBlock u6) (fun _ _ h => h.elim)).own hk4 hg9).into hk5 (.inl rfl)).trans ((hk6.mono (M' := fun x => some x = Value.ownBlock u6) (fun _ _ h => h.elim)).trans hk7 (fun _ _ h => h)) (fun _ _ h => .inr h)) (fun hm => by have := Hg.out; rcases hm with hm | hm; omega; have := (Hof.out kb hm.symm).1; omega) (fun hm => by have := Hg.out; rcases hm with hm | hm; omega; have := (Hof.out nb hm.symm).1; omega))
                 have HKw7 := Lib.hid hkw7
                 have Hp7 := Lib.hid hp7
                 have Hk37 := Lib.hid (show Keeps (fun x => (x = kb ∨ x = nb ∨ x = g5) ∨ some x = Value.ownBlock u6) wr w7 from (HK36.out.mono (fun _ _ h => .inl h)).trans hk7 (fun _ _ h => .inr h))
                 clear hkw7 hp7
                 have Hb37 := Lib.hid hb37
                 have Hb47 := Lib.hid hb47
                 have Hb57 := Lib.hid hb57
                 clear hb37 hb47 hb57 hnk
                 (try simp only [Act.put, List.setIfInBounds_toArray, List.set_cons_zero, List.set_cons_succ]))
            )
            refine ⟨⟨k + 1, got ++ [an], s1, m, by go_num, by omega, Lib.hid (hst.out.next hlt Hr.out Hae.out (fun h => by have h2 := h.2; simp at h2 hanb; exact h2 hanb) ⟨n0, n1⟩ Hm.out ⟨m0, m1⟩ Hk37.out Hp7.out Hgk.out Hown7.out Hb57.out)⟩, by simp [intOf]; omega⟩
      · have haeb : (ae != 0) = true := by simp [hae]
        have Hae := Lib.hid hae
        clear hae
        go_wp2_with (first
          | (go_at_call 35; go_must (refine Hrun.out.mono ?_; rintro e w2 ⟨⟨b9, rfl⟩, hk2, hp2⟩); have Hp2 := Lib.hid hp2; clear hp2; (try simp only [Act.put, List.setIfInBounds_toArray, List.set_cons_zero, List.set_cons_succ]))
          | ((with_reducible refine at_dst (N := 9) rfl ?_); go_must (refine ev_alloc rfl rfl zero80 rfl ?_; intro g9 w3 hg9 hl9 hb9 hk3'); have Hb9 := Lib.hid hb9; clear hb9; (try simp only [Act.put, List.setIfInBounds_toArray, List.set_cons_zero, List.set_cons_succ]))
          | ((with_reducible refine at_store (t := 80) (p := 9) rfl ?_); go_must (refine ev_store (cs' := #[.bool b9, .int .i64 an, .int .i64 ac1, .int .i64 ae]) rfl rfl rfl rfl rfl rfl HI.out.1.1 HI.out.1.2 rfl Hb9.out (Nat.le_of_ble_eq_true rfl) rfl ?_; intro w4 hb94 hk4); have Hb94 := Lib.hid hb94; clear hb94
             have e1 := (blk_cell Hb94.out 1).trans rfl
             have e2 := (blk_cell Hb94.out 2).trans rfl
             have e3 := (blk_cell Hb94.out 3).trans rfl
             have lg5 : g5 < w3.heap.size := by have := Hg.out; have := hst.out.keep.size; have := hk2.size; have := hk3'.size; omega
             have hb54 := hk4.blk (hk3'.blk (hk2.blk hst.out.out (by have := Hg.out; show ¬ (g5 = kb ∨ g5 = nb); omega)) id) (by have := Hg.out; have := hst.out.keep.size; have := hk2.size; show ¬ g5 = g9; omega)
             have Hb54 := Lib.hid hb54
             have d2 := (blk_cell hb54 2).trans rfl
             clear hb54
             (try simp only [Act.put, List.setIfInBounds_toArray, List.set_cons_zero, List.set_cons_succ]))
          | ((with_reducible refine at_dst (N := 35) rfl ?_); go_must (refine ev_min rfl rfl (p := c + ac1) (q := 1048576) rfl rfl (capM_min Hm.out) ?_); (try simp only [Act.put, List.setIfInBounds_toArray, List.set_cons_zero, List.set_cons_succ]))
          | ((with_reducible refine at_store (t := 3) (p := 36) rfl ?_); go_must (refine ev_store (cs' := #[.bool false, .int .i64 0, .int .i64 m, .int .i64 0]) rfl rfl rfl rfl rfl rfl HI.out.2.1 HI.out.2.2 rfl Hb54.out (Nat.le_of_ble_eq_true rfl) rfl ?_; intro w5 hb55 hk5); have Hb55 := Lib.hid hb55; clear hb55
             have e1 := hk5.cell e1 (by have := Hg.out; have := hst.out.keep.size; have := hk2.size; show ¬ g9 = g5; omega)
             have d2 := (blk_cell Hb55.out 2).trans rfl
             have e3 := hk5.cell e3 (by have := Hg.out; have := hst.out.keep.size; have := hk2.size; show ¬ g9 = g5; omega)
             (try simp only [Act.put, List.setIfInBounds_toArray, List.set_cons_zero, List.set_cons_succ]))
          | ((with_reducible refine at_store (t := 80) (p := 4) rfl ?_)
             go_must (refine ev_store (cs' := #[.bool false, .int .i64 0, .int .i64 m, .int .i64 ae]) rfl rfl rfl rfl rfl rfl HI.out.1.1 HI.out.1.2 rfl (hk5.blk (hk4.blk (hk3'.blk (hk2.blk Hb4r.out (by have := Hg.out; show ¬ (g4 = kb ∨ g4 = nb); omega)) id) (by have := Hg.out; have := hst.out.keep.size; have := hk2.size; show ¬ g4 = g9; omega)) (by have := Hg.out; show ¬ g4 = g5; omega)) (Nat.le_of_ble_eq_true rfl) rfl ?_; intro w6 hb6 hk6); (try simp only [Act.put, List.setIfInBounds_toArray, List.set_cons_zero, List.set_cons_succ])))
        have q0 := (blk_cell hb6 0).trans rfl
        have q1 := (blk_cell hb6 1).trans rfl
        have q2 := (blk_cell hb6 2).trans rfl
        have q3 := (blk_cell hb6 3).trans rfl
        refine bodyPost_ret (v := .agg #[.bool false, .int .i64 0, .int .i64 m, .int .i64 ae]) (by rw [results_cell1 rfl]; go_simp) rfl ?_
        have hRR := HRR.out
        rw [hst.out.err hlt Hr.out Hae.out] at hRR
        simp only [Hm.out] at hRR
        rw [← hRR]
        have hkw6 : Keeps (fun x => x = kb ∨ x = nb) w w6 := ((((HKw.out.trans hk2 (fun _ _ h => h)).trans hk3' (fun _ _ h => h.elim)).own hk4 (by have := HKw.out.size; have := hk2.size; omega)).own hk5 (by have := Hg.out; omega)).own hk6 (by have := Hg.out; omega)
        exact ⟨⟨false, rfl⟩, hkw6, Hp.out.mix hkw6 Hp2.out ((((hk3'.mono (M' := fun x => x = g5 ∨ x = g4) (fun _ _ h => h.elim)).own hk4 hg9).into hk5 (.inl rfl)).into hk6 (.inr rfl)) (by have := Hg.out; show ¬ (kb = g5 ∨ kb = g4); omega) (by have := Hg.out; show ¬ (nb = g5 ∨ nb = g4); omega)⟩
    · have hk' : k = asks.length := by omega
      subst hk'
      have f0 := (blk_cell hb3r 0).trans rfl
      have f1 := (blk_cell hb3r 1).trans rfl
      have f2 := (blk_cell hb3r 2).trans rfl
      clear hb3r
      go_wp2_with (first
        | (go_at_call 64
           go_must (have hanz := Hans.out _ _ got wr (fun _ => True) X (Hx.out.keep HKw.out (fun b _ hb hm => hm.elim (fun e => Hp.out.xk (e ▸ hb)) (fun e => Hp.out.xn (e ▸ hb))) (fun _ _ h => h)) (IntsX.own (xs := got) (by have h := own_base hst.out.own; simpa [hst.out.len] using h) _ (fun _ _ => trivial)) (by rw [hst.out.len]; omega) hst.out.rng (fun _ => hst.out.len))
           obtain ⟨an_, Han_⟩ : ∃ x, Hid (answerOf ⟨K, N, asks⟩ got = x) := ⟨_, Lib.hid rfl⟩
           rw [Han_.out] at hanz
           go_must (refine hanz.mono ?_; rintro e w8 ⟨rfl, hk8⟩); have Hbo8 := Lib.hid (hk8.blk hst.out.out id); have Hbr8 := Lib.hid (hk8.blk Hb4r.out id); (try simp only [Act.put, List.setIfInBounds_toArray, List.set_cons_zero, List.set_cons_succ]))
        | ((with_reducible refine at_store (t := 3) (p := 91) rfl ?_); go_must (refine ev_store (cs' := #[.bool false, .int .i64 an_, .int .i64 c, .int .i64 0]) rfl rfl rfl rfl rfl rfl HI.out.2.1 HI.out.2.2 rfl Hbo8.out (Nat.le_of_ble_eq_true rfl) rfl ?_; intro w9 hb9 hk9); have q0 := (blk_cell hb9 0).trans rfl; have q1 := (blk_cell hb9 1).trans rfl; have q2 := (blk_cell hb9 2).trans rfl; have q3 := (blk_cell hb9 3).trans rfl; clear hb9; (try simp only [Act.put, List.setIfInBounds_toArray, List.set_cons_zero, List.set_cons_succ]))
        | ((with_reducible refine at_store (t := 80) (p := 4) rfl ?_); go_must (refine ev_store (cs' := #[.bool false, .int .i64 an_, .int .i64 c, .int .i64 0]) rfl rfl rfl rfl rfl rfl HI.out.1.1 HI.out.1.2 rfl (hk9.blk Hbr8.out (by have := Hg.out; show ¬ g4 = g5; omega)) (Nat.le_of_ble_eq_true rfl) rfl ?_; intro w10 hb10 hk10); (try simp only [Act.put, List.setIfInBounds_toArray, List.set_cons_zero, List.set_cons_succ]))
      )
      have q0 := (blk_cell hb10 0).trans rfl
      have q1 := (blk_cell hb10 1).trans rfl
      have q2 := (blk_cell hb10 2).trans rfl
      have q3 := (blk_cell hb10 3).trans rfl
      refine bodyPost_ret (v := .agg #[.bool false, .int .i64 an_, .int .i64 c, .int .i64 0]) (by rw [results_cell1 rfl]; go_simp) rfl ?_
      have hRR := HRR.out
      rw [hst.out.end_] at hRR
      simp only [Han_.out] at hRR
      rw [← hRR]
      have hkw10 : Keeps (fun x => x = kb ∨ x = nb) w w10 := ((HKw.out.trans hk8 (fun _ _ h => h.elim)).own hk9 (by have := Hg.out; omega)).own hk10 (by have := Hg.out; omega)
      exact ⟨⟨false, rfl⟩, hkw10, Hp.out.mix hkw10 hst.out.pa (((hk8.mono (M' := fun x => x = g5 ∨ x = g4) (fun _ _ h => h.elim)).into hk9 (.inl rfl)).into hk10 (.inr rfl)) (by have := Hg.out; show ¬ (kb = g5 ∨ kb = g4); omega) (by have := Hg.out; show ¬ (nb = g5 ∨ nb = g4); omega)⟩
end Go.Proofs.QW

/-
  A rule worked out by the specification's Plain, in memory: RuPick, and with it every kind. Condition: nested askings come to the model's.
-/
namespace Go.Proofs.QW
open Go.RowKit Go.Proofs.KL Go.Proofs.QM
set_option maxRecDepth 100000
set_option linter.unusedSimpArgs false
set_option linter.unusedVariables false

set_option maxHeartbeats 4000000 in
/-- RuPick. -/
theorem rrule_pick {E : Env} {on : List Int} {rask : RAsk} (IH : RAskOK E on rask) (hG : RGood E.rules.length rask) (w : World) (X Y : Nat → Prop) (pb kb nb : Nat) (s : Known) (asv : Value) (r : QRule) (hr : ROk E.rules.length r) (h3 : r.kind = 3)
    (hp : PlainAt w X Y pb kb nb E.rules E.inp on s) (hkb : KB E.rules.length s) (hx : IntsX w X asv r.asks) :
    Calls Tryd.prog 55 #[.pointer (some ⟨pb, 0, none⟩), .agg #[.int .i64 r.kind, .int .i64 r.n, asv]] w (RAns w X Y pb kb nb E on (rRule rask s r)) := by
  obtain ⟨RR, hRR⟩ : ∃ x, rRule rask s r = x := ⟨_, rfl⟩
  rw [hRR]
  unfold rRule at hRR
  rw [if_pos h3] at hRR
  have HRR := Lib.hid hRR
  have hl12 := hr.l12
  have hl1 := hr.l1
  rw [h3] at hl1
  have hl2 : (2 : Int) ≤ r.asks.length := hl1
  have Hr0 := Lib.hid hr
  have Hq := Lib.hid hr.asks
  clear hl1
  obtain ⟨K, N, asks⟩ := r
  simp only at hl12 hl2 h3
  subst h3
  obtain ⟨A, ac, rfl, -, -⟩ := id hx
  have hlen : 0 < asks.length := by omega
  obtain ⟨b, o, rfl, hXb, _⟩ := (by obtain ⟨A', c', h1, _, h3⟩ := hx; injection h1 with h1 _ _; subst h1; exact h3 0 hlen : ∃ b o, A = some ⟨b, o, none⟩ ∧ X b ∧ w.cell? ⟨b, o + 0, none⟩ = some (.int .i64 (asks.getD 0 0)))
  obtain ⟨q0, Hq0⟩ : ∃ q, Hid (asks.getD 0 0 = q) := ⟨_, rfl⟩
  obtain ⟨i80, hi80, hs80⟩ := info80
  obtain ⟨i3, hi3, hs3⟩ := infoS3
  have HI := Lib.hid (And.intro (And.intro hi80 hs80) (And.intro hi3 hs3))
  have Hp := Lib.hid hp
  have Hx := Lib.hid hx
  have HK := Lib.hid hkb
  have HIH := Lib.hid IH
  have HG := Lib.hid hG
  obtain ⟨K, hK⟩ : ∃ K : Int, K = 3 := ⟨3, rfl⟩
  have hk3 : (K == 3) = true := by rw [hK]; rfl
  have hk4 : (K == 4) = false := by rw [hK]; rfl
  rw [show (Value.int .i64 3) = .int .i64 K by rw [hK]]
  have HKe := Lib.hid hK
  have HXb := Lib.hid hXb
  clear hXb
  clear hRR hr hp hx hkb IH hG hi80 hs80 hi3 hs3 hK
  go_enter Tryd.func55, Tryd.ntmps55
  go_wp2_with (first
    | ((with_reducible refine at_dst (N := 3) rfl ?_); go_must (refine ev_box (cs := #[.int .i64 K, .int .i64 N, .slice (some ⟨b, o, none⟩) asks.length ac]) rfl rfl rfl ?_; intro g3 wa hg3 hl3 hb3 hka); have Hb3 := Lib.hid hb3; have f2 := (blk_cell hb3 2).trans rfl; clear hb3; (try simp only [Act.put, List.setIfInBounds_toArray, List.set_cons_zero, List.set_cons_succ]))
    | ((with_reducible refine at_dst (N := 4) rfl ?_); go_must (refine ev_alloc rfl rfl zero80 rfl ?_; intro g4 wb hg4 hl4 hb4' hkb); have Hb4 := Lib.hid hb4'; have f2 := hkb.cell f2 id; clear hb4'; (try simp only [Act.put, List.setIfInBounds_toArray, List.set_cons_zero, List.set_cons_succ]))
    | ((with_reducible refine at_dst (N := 5) rfl ?_); go_must (refine ev_alloc rfl rfl zero80 rfl ?_; intro g5 wc hg5 hl5 hb5 hkc); have Hb5 := Lib.hid hb5; have f2 := hkc.cell f2 id; clear hb5; (try simp only [Act.put, List.setIfInBounds_toArray, List.set_cons_zero, List.set_cons_succ]))
    | ((with_reducible refine at_store (t := 80) (p := 5) rfl ?_); go_must (refine ev_store (cs' := #[.bool false, .int .i64 0, .int .i64 1, .int .i64 0]) rfl rfl rfl rfl rfl rfl HI.out.1.1 HI.out.1.2 rfl Hb5.out (Nat.le_of_ble_eq_true rfl) rfl ?_; intro w1 hb5' hkd); have Hb51 := Lib.hid hb5'; have f2 := hkd.cell f2 (by show ¬ g3 = g5; omega); clear hb5'; (try simp only [Act.put, List.setIfInBounds_toArray, List.set_cons_zero, List.set_cons_succ])))
  have hk01 : Keeps Nob w w1 := (((hka.trans hkb (fun _ _ h => h)).trans hkc (fun _ _ h => h)).own hkd (by have := hka.size; have := hkb.size; omega))
  have z1 := hka.size
  have z2 := hkb.size
  have z3 := hkc.size
  have z4 := hkd.size
  obtain ⟨lkb, lnb⟩ := Hp.out.lts
  have Hb31 := Lib.hid (hkd.blk (hkc.blk (hkb.blk Hb3.out id) id) (by show ¬ g3 = g5; omega))
  have Hb41 := Lib.hid (hkd.blk (hkc.blk Hb4.out id) (by show ¬ g4 = g5; omega))
  have Hg := Lib.hid (show (w.heap.size ≤ g3 ∧ g3 < g4 ∧ g4 < g5 ∧ g5 < w1.heap.size) ∧ (kb < w.heap.size ∧ nb < w.heap.size) from ⟨⟨hg3, by omega, by omega, by omega⟩, lkb, lnb⟩)
  have Hk01 := Lib.hid hk01
  have Hst0 := Lib.hid (RLoop.start (rask := rask) (stop := false) (L := [q0]) (g5 := g5) (Hp.out.keep hk01) HK.out Hb51.out)
  clear hk01 hka hkb hkc hkd lkb lnb z1 z2 z3 z4 hg3 hg4 hg5 hl3 hl4 hl5 Hb3 Hb4 Hb5 Hb51
  go_loopw [6, 15] (fun gv v wr => ∃ (k : Nat) (got : List Int) (sk : Known) (c : Int), v = .int .i64 k ∧ k ≤ 1 ∧ Hid (RLoop w1 X Y pb kb nb g5 E on rask false s [q0] k got sk c gv wr) ∧ Hid (k = 1 → ∃ a, rask s q0 = (sk, a) ∧ a.e = 0 ∧ got = [a.n] ∧ c = capM (1 + a.cost) ∧ 0 ≤ a.n ∧ a.n ≤ 1048576) ∧ Hid (k = 0 → sk = s ∧ got = [] ∧ c = 1))
    (fun _ v _ => 1 - (intOf v).toNat)
  case atStart => exact ⟨0, [], s, 1, rfl, Nat.zero_le _, Hst0, Lib.hid (fun h => absurd h (by decide)), Lib.hid (fun _ => ⟨rfl, rfl, rfl⟩)⟩
  case round =>
    obtain ⟨k, got, sk, c, rfl, hk, hst, hex1, hex0⟩ := hrel
    have HKw := Lib.hid (hst.out.keepW Hk01.out (by have := Hg.out; omega))
    have hb3r := KeepsLoop hst.out.keep Hb31.out (by have := Hg.out; omega) (by have := Hg.out; omega) (by have := Hg.out; omega)
    have Hb3r := Lib.hid hb3r
    have Hb4r := Lib.hid (KeepsLoop hst.out.keep Hb41.out (by have := Hg.out; omega) (by have := Hg.out; omega) (by have := Hg.out; omega))
    have hx1 := Hx.out.keep (X' := X) HKw.out (fun b _ hb hm => hm.elim (fun e => Hp.out.xk (e ▸ hb)) (fun e => Hp.out.xn (e ▸ hb))) (fun _ _ h => h)
    have Hx1 := Lib.hid hx1
    obtain ⟨c0, c1⟩ := hst.out.c01
    have f0 := (blk_cell hb3r 0).trans rfl
    by_cases hlt : k = 0
    · obtain ⟨rfl, hgot, hc1'⟩ := hex0.out hlt
      have Hgot := Lib.hid hgot
      have Hc1 := Lib.hid hc1'
      have Hk0 := Lib.hid hlt
      have hka : k < asks.length := by omega
      have hkz : ¬ (0 : Int) < k := by omega
      have hk1 : k < [q0].length := by simp [hlt]
      have hcw := hx1.cellAt hka
      obtain ⟨q, Hqd⟩ : ∃ q, Hid (q0 = q) := ⟨_, rfl⟩
      have hgd : asks.getD k 0 = q := by rw [hlt, Hq0.out, Hqd.out]
      rw [hgd] at hcw
      have hqq : InQ E q0 := by have := Hq.out _ (getD_mem (k := 0) hlen); rw [Hq0.out] at this; exact this
      have hgood := HG.out sk q0 hst.out.kn hqq
      have hrun := HIH.out wr X Y pb kb nb sk q0 hst.out.pa hst.out.kn hqq
      rcases hr : rask sk q0 with ⟨s1, a⟩
      rw [hr] at hgood hrun
      have Hr := Lib.hid hr
      obtain ⟨an, ac1, ae⟩ := a
      simp only at hgood
      rw [Hqd.out] at hrun
      obtain ⟨hgk, ⟨hc0, hc1⟩, hgn⟩ := hgood
      have Hgk := Lib.hid hgk
      have Hgn := Lib.hid hgn
      have Hrun := Lib.hid hrun
      have hw : IntKind.i64.wrap (c + ac1) = c + ac1 := IntWalk.i64_in _ (by omega)
      obtain ⟨m, hm⟩ : ∃ m, capM (c + ac1) = m := ⟨_, rfl⟩
      have hm01 := capM_range (c := c + ac1) (by omega)
      rw [hm] at hm01
      obtain ⟨m0, m1⟩ := hm01
      have Hm := Lib.hid hm
      have Hf := Lib.hid hst.out.own
      have Hof := Lib.hid (hst.out.ownFar)
      clear hm hgd hgot hc1' hlt hr hgk hgn hrun hx1 hb3r hqq
      by_cases hae : ae = 0
      · have haeb : (ae != 0) = false := by simp [hae]
        have Hae := Lib.hid hae
        clear hae
        obtain ⟨n0, n1⟩ := Hgn.out Hae.out
        go_wp2_with (first
          | (go_at_call 35; go_must (refine Hrun.out.mono ?_; rintro e w2 ⟨⟨b9, rfl⟩, hk2, hp2⟩); have Hp2 := Lib.hid hp2; clear hp2; (try simp only [Act.put, List.setIfInBounds_toArray, List.set_cons_zero, List.set_cons_succ]))
          | ((with_reducible refine at_dst (N := 9) rfl ?_); go_must (refine ev_alloc rfl rfl zero80 rfl ?_; intro g9 w3 hg9 hl9 hb9 hk3'); have Hb9 := Lib.hid hb9; clear hb9; (try simp only [Act.put, List.setIfInBounds_toArray, List.set_cons_zero, List.set_cons_succ]))
          | ((with_reducible refine at_store (t := 80) (p := 9) rfl ?_); go_must (refine ev_store (cs' := #[.bool b9, .int .i64 an, .int .i64 ac1, .int .i64 ae]) rfl rfl rfl rfl rfl rfl HI.out.1.1 HI.out.1.2 rfl Hb9.out (Nat.le_of_ble_eq_true rfl) rfl ?_; intro w4 hb94 hk4); have Hb94 := Lib.hid hb94; clear hb94
             have e1 := (blk_cell Hb94.out 1).trans rfl
             have e2 := (blk_cell Hb94.out 2).trans rfl
             have e3 := (blk_cell Hb94.out 3).trans rfl
             have lg5 : g5 < w3.heap.size := by have := Hg.out; have := hst.out.keep.size; have := hk2.size; have := hk3'.size; omega
             have hb54 := hk4.blk (hk3'.blk (hk2.blk hst.out.out (by have := Hg.out; show ¬ (g5 = kb ∨ g5 = nb); omega)) id) (by have := Hg.out; have := hst.out.keep.size; have := hk2.size; show ¬ g5 = g9; omega)
             have Hb54 := Lib.hid hb54
             have d2 := (blk_cell hb54 2).trans rfl
             clear hb54
             (try simp only [Act.put, List.setIfInBounds_toArray, List.set_cons_zero, List.set_cons_succ]))
          | ((with_reducible refine at_dst (N := 35) rfl ?_); go_must (refine ev_min rfl rfl (p := c + ac1) (q := 1048576) rfl rfl (capM_min Hm.out) ?_); (try simp only [Act.put, List.setIfInBounds_toArray, List.set_cons_zero, List.set_cons_succ]))
          | ((with_reducible refine at_store (t := 3) (p := 36) rfl ?_); go_must (refine ev_store (cs' := #[.bool false, .int .i64 0, .int .i64 m, .int .i64 0]) rfl rfl rfl rfl rfl rfl HI.out.2.1 HI.out.2.2 rfl Hb54.out (Nat.le_of_ble_eq_true rfl) rfl ?_; intro w5 hb55 hk5); have Hb55 := Lib.hid hb55; clear hb55
             have e1 := hk5.cell e1 (by have := Hg.out; have := hst.out.keep.size; have := hk2.size; show ¬ g9 = g5; omega)
             have d2 := (blk_cell Hb55.out 2).trans rfl
             have e3 := hk5.cell e3 (by have := Hg.out; have := hst.out.keep.size; have := hk2.size; show ¬ g9 = g5; omega)
             (try simp only [Act.put, List.setIfInBounds_toArray, List.set_cons_zero, List.set_cons_succ]))
          | ((with_reducible refine at_dst (N := 48) rfl ?_); go_must (refine ev_slice (cs := #[.int .i64 an]) (t := 3) (n := 1) (c := 1) rfl (by first | (go_simp; done) | (go_simp; rfl)) ?_; intro g6 w6 hg6 hl6 hb6 hk6); have Hb6 := Lib.hid hb6; clear hb6
             have hk36 : Keeps (fun x => x = kb ∨ x = nb ∨ x = g5) wr w6 := ((((hk2.mono (fun _ _ h => h.imp id .inl)).trans hk3' (fun _ _ h => h.elim)).own hk4 (by have := hk2.size; omega)).into hk5 (.inr (.inr rfl))).trans hk6 (fun _ _ h => h.elim)
             have HK36 := Lib.hid hk36
             clear hk36
             (try simp only [Act.put, List.setIfInBounds_toArray, List.set_cons_zero, List.set_cons_succ]))
          | ((with_reducible refine at_dst (N := 49) rfl ?_); go_must (refine ev_append (W := w6) rfl rfl Tryd.underlying23 info3 rfl (by decide) (base := w1.heap.size) rfl (ownsRow_keep Hf.out HK36.out (fun b hb hm => by have := (Hof.out b hb); have := Hg.out; rcases hm with hm | hm | hm <;> omega)) (news := [.int .i64 an]) rfl rfl (fun _ => ⟨_, rfl, World.news_of_block Hb6.out⟩) (by simp [Value.oneCell']) (by omega) (by decide) (by have := hst.out.keep.size; have := HK36.out.size; omega) ?_; intro av7 w7 hown7 hk7 hr7 hf7); go_must (have Hown7 := Lib.hid hown7; have Hr7 := Lib.hid hr7; clear hown7 hf7 hr7); go_must (have e1 := hk7.cell (hk6.cell e1 id) (fun e => by have := (Hof.out g9 e.symm).2; have := hk2.size; have := hg9; omega))
             have hnk : ∀ g, g < w1.heap.size → g ≠ kb → g ≠ nb → ¬ (some g = Value.ownBlock u6) ∧ (g ≠ g5 → ¬ (g = kb ∨ g = nb ∨ g = g5)) := fun g hg h1 h2 => ⟨fun e => by have := (Hof.out g e.symm).1; omega, fun h3 hm => hm.elim h1 (fun hm => hm.elim h2 h3)⟩
             go_must (have hb37 := hk7.blk (HK36.out.blk Hb3r.out ((hnk g3 (by have := Hg.out; omega) (by have := Hg.out; omega) (by have := Hg.out; omega)).2 (by have := Hg.out; omega))) (hnk g3 (by have := Hg.out; omega) (by have := Hg.out; omega) (by have := Hg.out; omega)).1)
             go_must (have hb47 := hk7.blk (HK36.out.blk Hb4r.out ((hnk g4 (by have := Hg.out; omega) (by have := Hg.out; omega) (by have := Hg.out; omega)).2 (by have := Hg.out; omega))) (hnk g4 (by have := Hg.out; omega) (by have := Hg.out; omega) (by have := Hg.out; omega)).1)
             go_must (have hb57 := hk7.blk (hk6.blk Hb55.out id) (hnk g5 (by have := Hg.out; omega) (by have := Hg.out; omega) (by have := Hg.out; omega)).1)
             have f0 := (blk_cell hb37 0).trans rfl
             have f1 := (blk_cell hb37 1).trans rfl
             have f2 := (blk_cell hb37 2).trans rfl
             go_must (have hkw7 : Keeps (fun x => x = kb ∨ x = nb) w w7 := (HKw.out.trans HK36.out (fun i hi hm => by have := Hg.out; rcases hm with hm | hm | hm; exact .inl hm; exact .inr hm; omega)).trans hk7 (fun i hi e => by have := (Hof.out i e.symm).1; have := Hg.out; have := Hk01.out.size; omega))
             go_must (have hp7 := Hp.out.mix hkw7 Hp2.out ((((hk3'.mono (M' := fun x => x = g5 ∨ some x = Value.ownBlock u6) (fun _ _ h => h.elim)).own hk4 hg9).into hk5 (.inl rfl)).trans ((hk6.mono (M' := fun x => some x = Value.ownBlock u6) (fun _ _ h => h.elim)).trans hk7 (fun _ _ h => h)) (fun _ _ h => .inr h)) (fun hm => by have := Hg.out; rcases hm with hm | hm; omega; have := (Hof.out kb hm.symm).1; omega) (fun hm => by have := Hg.out; rcases hm with hm | hm; omega; have := (Hof.out nb hm.symm).1; omega))
             have HKw7 := Lib.hid hkw7
             have Hp7 := Lib.hid hp7
             have Hk37 := Lib.hid (show Keeps (fun x => (x = kb ∨ x = nb ∨ x = g5) ∨ some x = Value.ownBlock u6) wr w7 from (HK36.out.mono (fun _ _ h => .inl h)).trans hk7 (fun _ _ h => .inr h))
             clear hkw7 hp7
             have Hb37 := Lib.hid hb37
             have Hb47 := Lib.hid hb47
             have Hb57 := Lib.hid hb57
             clear hb37 hb47 hb57 hnk
             (try simp only [Act.put, List.setIfInBounds_toArray, List.set_cons_zero, List.set_cons_succ]))
        )
        refine ⟨⟨k + 1, got ++ [an], s1, m, by go_num, by have := Hk0.out; omega, Lib.hid (hst.out.next hk1 (by rw [Hk0.out]; exact Hr.out) Hae.out (fun h => absurd h.1 (by decide)) ⟨n0, n1⟩ Hm.out ⟨m0, m1⟩ Hk37.out Hp7.out Hgk.out Hown7.out Hb57.out), Lib.hid (fun _ => ⟨⟨an, ac1, ae⟩, by first | exact Hr.out | rfl, Hae.out, by rw [Hgot.out]; rfl, by rw [← Hm.out, Hc1.out], n0, n1⟩), Lib.hid (fun h => absurd h (by omega))⟩, by simp [intOf]; have := Hk0.out; omega⟩
      · have haeb : (ae != 0) = true := by simp [hae]
        have Hae := Lib.hid hae
        clear hae
        go_wp2_with (first
          | (go_at_call 35; go_must (refine Hrun.out.mono ?_; rintro e w2 ⟨⟨b9, rfl⟩, hk2, hp2⟩); have Hp2 := Lib.hid hp2; clear hp2; (try simp only [Act.put, List.setIfInBounds_toArray, List.set_cons_zero, List.set_cons_succ]))
          | ((with_reducible refine at_dst (N := 9) rfl ?_); go_must (refine ev_alloc rfl rfl zero80 rfl ?_; intro g9 w3 hg9 hl9 hb9 hk3'); have Hb9 := Lib.hid hb9; clear hb9; (try simp only [Act.put, List.setIfInBounds_toArray, List.set_cons_zero, List.set_cons_succ]))
          | ((with_reducible refine at_store (t := 80) (p := 9) rfl ?_); go_must (refine ev_store (cs' := #[.bool b9, .int .i64 an, .int .i64 ac1, .int .i64 ae]) rfl rfl rfl rfl rfl rfl HI.out.1.1 HI.out.1.2 rfl Hb9.out (Nat.le_of_ble_eq_true rfl) rfl ?_; intro w4 hb94 hk4); have Hb94 := Lib.hid hb94; clear hb94
             have e1 := (blk_cell Hb94.out 1).trans rfl
             have e2 := (blk_cell Hb94.out 2).trans rfl
             have e3 := (blk_cell Hb94.out 3).trans rfl
             have lg5 : g5 < w3.heap.size := by have := Hg.out; have := hst.out.keep.size; have := hk2.size; have := hk3'.size; omega
             have hb54 := hk4.blk (hk3'.blk (hk2.blk hst.out.out (by have := Hg.out; show ¬ (g5 = kb ∨ g5 = nb); omega)) id) (by have := Hg.out; have := hst.out.keep.size; have := hk2.size; show ¬ g5 = g9; omega)
             have Hb54 := Lib.hid hb54
             have d2 := (blk_cell hb54 2).trans rfl
             clear hb54
             (try simp only [Act.put, List.setIfInBounds_toArray, List.set_cons_zero, List.set_cons_succ]))
          | ((with_reducible refine at_dst (N := 35) rfl ?_); go_must (refine ev_min rfl rfl (p := c + ac1) (q := 1048576) rfl rfl (capM_min Hm.out) ?_); (try simp only [Act.put, List.setIfInBounds_toArray, List.set_cons_zero, List.set_cons_succ]))
          | ((with_reducible refine at_store (t := 3) (p := 36) rfl ?_); go_must (refine ev_store (cs' := #[.bool false, .int .i64 0, .int .i64 m, .int .i64 0]) rfl rfl rfl rfl rfl rfl HI.out.2.1 HI.out.2.2 rfl Hb54.out (Nat.le_of_ble_eq_true rfl) rfl ?_; intro w5 hb55 hk5); have Hb55 := Lib.hid hb55; clear hb55
             have e1 := hk5.cell e1 (by have := Hg.out; have := hst.out.keep.size; have := hk2.size; show ¬ g9 = g5; omega)
             have d2 := (blk_cell Hb55.out 2).trans rfl
             have e3 := hk5.cell e3 (by have := Hg.out; have := hst.out.keep.size; have := hk2.size; show ¬ g9 = g5; omega)
             (try simp only [Act.put, List.setIfInBounds_toArray, List.set_cons_zero, List.set_cons_succ]))
          | ((with_reducible refine at_store (t := 80) (p := 4) rfl ?_)
             go_must (refine ev_store (cs' := #[.bool false, .int .i64 0, .int .i64 m, .int .i64 ae]) rfl rfl rfl rfl rfl rfl HI.out.1.1 HI.out.1.2 rfl (hk5.blk (hk4.blk (hk3'.blk (hk2.blk Hb4r.out (by have := Hg.out; show ¬ (g4 = kb ∨ g4 = nb); omega)) id) (by have := Hg.out; have := hst.out.keep.size; have := hk2.size; show ¬ g4 = g9; omega)) (by have := Hg.out; show ¬ g4 = g5; omega)) (Nat.le_of_ble_eq_true rfl) rfl ?_; intro w6 hb6 hk6); (try simp only [Act.put, List.setIfInBounds_toArray, List.set_cons_zero, List.set_cons_succ])))
        have q0 := (blk_cell hb6 0).trans rfl
        have q1 := (blk_cell hb6 1).trans rfl
        have q2 := (blk_cell hb6 2).trans rfl
        have q3 := (blk_cell hb6 3).trans rfl
        refine bodyPost_ret (v := .agg #[.bool false, .int .i64 0, .int .i64 m, .int .i64 ae]) (by rw [results_cell1 rfl]; go_simp) rfl ?_
        have hRR := HRR.out
        (try dsimp only at hRR)
        rw [Hq0.out, Hr.out] at hRR
        simp only [if_pos Hae.out, ← Hc1.out, Hm.out] at hRR
        rw [← hRR]
        have hkw6 : Keeps (fun x => x = kb ∨ x = nb) w w6 := ((((HKw.out.trans hk2 (fun _ _ h => h)).trans hk3' (fun _ _ h => h.elim)).own hk4 (by have := HKw.out.size; have := hk2.size; omega)).own hk5 (by have := Hg.out; omega)).own hk6 (by have := Hg.out; omega)
        exact ⟨⟨false, rfl⟩, hkw6, Hp.out.mix hkw6 Hp2.out ((((hk3'.mono (M' := fun x => x = g5 ∨ x = g4) (fun _ _ h => h.elim)).own hk4 hg9).into hk5 (.inl rfl)).into hk6 (.inr rfl)) (by have := Hg.out; show ¬ (kb = g5 ∨ kb = g4); omega) (by have := Hg.out; show ¬ (nb = g5 ∨ nb = g4); omega)⟩
    · obtain ⟨a, ha, hae, hgot, hca, hn0, hn1⟩ := hex1.out (by omega)
      have hka : k < asks.length := by omega
      have hkz : (0 : Int) < k := by omega
      have hk1 : k = 1 := by omega
      obtain ⟨g6, cap6, rfl, hc6, hg6⟩ : ∃ g cap, u6 = .slice (some ⟨g, 0, none⟩) 1 cap ∧ wr.cell? ⟨g, 0, none⟩ = some (.int .i64 a.n) ∧ w1.heap.size ≤ g := by
        have ho := hst.out.own
        rw [hk1, hgot] at ho
        rcases ho.2 with ⟨_, h0⟩ | ⟨g, cap, cur, hv, hg, hh, hnc, _, hcs, ht⟩
        · exact absurd h0 (by decide)
        · refine ⟨g, cap, hv, ?_, hg⟩
          rw [blk_cell hh, ← Array.getElem?_toList]
          have := congrArg (·[0]?) ht
          simpa using this
      have HG1' := Lib.hid (show w.heap.size ≤ g6 by have := Hg.out; omega)
      obtain ⟨an, ac1, ae⟩ := a
      simp only at hc6 ha hae hca hn0 hn1
      have Ha := Lib.hid ha
      have Hae := Lib.hid hae
      have Hca := Lib.hid hca
      have Hk1 := Lib.hid hk1
      have hpk := (pick_mem (E := E) (v := an) Hr0.out rfl hn0).1
      have hpos : 0 < (asks.length : Int) - 1 := by omega
      have a1 := Int.emod_nonneg an (show (asks.length : Int) - 1 ≠ 0 by omega)
      have a2 := Int.emod_lt_of_pos an hpos
      obtain ⟨j, hj⟩ := Int.eq_ofNat_of_zero_le a1
      have hjl : j + 1 < asks.length := by omega
      have hpe : pickOf ⟨3, N, asks⟩ an = asks.getD (1 + j) 0 := by
        show asks.getD (1 + an % ((asks.length : Int) - 1)).toNat 0 = _
        rw [hj, show (1 + (j : Int)).toNat = 1 + j by omega]
      obtain ⟨q1, Hq1⟩ : ∃ q, Hid (asks.getD (1 + j) 0 = q) := ⟨_, rfl⟩
      rw [hpe, Hq1.out] at hpk
      have Hpe := Lib.hid (hpe.trans Hq1.out)
      have Hj := Lib.hid hj
      have Hpk := Lib.hid hpk
      have fqk := hx1.cellAt (k := k) hka
      obtain ⟨qk, Hqk⟩ : ∃ q, Hid (asks.getD k 0 = q) := ⟨_, rfl⟩
      rw [Hqk.out] at fqk
      have fq1 := hx1.cellAt (k := 1 + j) (by omega)
      rw [Hq1.out] at fq1
      have f2 := (blk_cell hb3r 2).trans rfl
      have hA : IntKind.i64.wrap ((asks.length : Int) - 1) = (asks.length : Int) - 1 := IntWalk.i64_in _ (by omega)
      have hB : an.tmod ((asks.length : Int) - 1) = (j : Int) := by rw [Int.tmod_eq_emod_of_nonneg hn0]; exact Hj.out
      have hC : IntKind.i64.wrap (1 + (j : Int)) = 1 + (j : Int) := IntWalk.i64_in _ (by omega)
      have hD : IntKind.i64.wrap (j : Int) = (j : Int) := IntWalk.i64_in _ (by omega)
      have hE : (1 + (j : Int)).toNat = 1 + j := by omega
      have hF : ¬ (asks.length : Int) - 1 = 0 := by omega
      have hG1 : 1 + (j : Int) < (asks.length : Int) := by omega
      have hG2 : (0 : Int) ≤ 1 + (j : Int) := by omega
      have hrunG : ∀ wx, Keeps Nob wr wx → Calls Tryd.prog 35 #[.pointer (some ⟨pb, 0, none⟩), .int .i64 q1] wx (RAns wx X Y pb kb nb E on (rask sk q1)) := fun wx hkx => HIH.out wx X Y pb kb nb sk q1 (hst.out.pa.keep hkx) hst.out.kn Hpk.out
      have hgood := HG.out sk q1 hst.out.kn Hpk.out
      rcases hr2 : rask sk q1 with ⟨s2, b2⟩
      rw [hr2] at hrunG hgood
      obtain ⟨bn, bc, be⟩ := b2
      simp only at hgood
      obtain ⟨-, ⟨bc0, bc1⟩, -⟩ := hgood
      have Hr2 := Lib.hid hr2
      have HrunG := Lib.hid hrunG
      clear hgot ha hae hca hk1 hpk hpos a1 a2 hj hpe hx1 hb3r hrunG hr2 hlt
      have Hdr := Lib.hid (Keeps.refl Nob wr).drew
      have Fq := Lib.hid fq1
      have hwz : IntKind.i64.wrap (c + bc) = c + bc := IntWalk.i64_in _ (by omega)
      obtain ⟨m2, hm2⟩ : ∃ m, capM (c + bc) = m := ⟨_, rfl⟩
      have Hm2 := Lib.hid hm2
      clear hm2
      go_wp2_with fail
      refine wp_region_tree (.q 0 (.q 1 (.q 2 (.q 3 (.q 4 (.q 5 (.q 6 (.q 7 (.q 8 (.q 9 (.q 10 (.q 11 (.q 12 (.q 13 (.br [14, 15] (fun k => bif Nat.beq k 14 then .br [15] (fun k => .br [16] (fun k => .done)) else .br [14] (fun k => .br [16] (fun k => .done)))))))))))))))))) (fun w' => w'.cell? ⟨g3, 2, none⟩ = some (.slice (some ⟨b, o, none⟩) asks.length ac) ∧ w'.cell? ⟨g6, 0, none⟩ = some (.int .i64 an) ∧ w'.cell? ⟨b, o + (1 + j), none⟩ = some (.int .i64 q1)) rfl (by kernel_rfl) (by kernel_rfl) (fun c a d v w h => by cases d <;> exact h) ⟨f2, hc6, fq1⟩ ?_
      refine tree_q (v := ?v1_16) (some 62) rfl rfl rfl ?q1_16 ?h1_16; (case q1_16 => (intro w' hS; obtain ⟨s1, s2, s3⟩ := hS; first | (go_simp; done) | (go_simp; rfl))); (try simp only [Act.put, List.setIfInBounds_toArray, List.set_cons_zero, List.set_cons_succ])
      refine tree_q (v := ?v1_15) (some 63) rfl rfl rfl ?q1_15 ?h1_15; (case q1_15 => (intro w' hS; obtain ⟨s1, s2, s3⟩ := hS; first | (go_simp; done) | (go_simp; rfl))); (try simp only [Act.put, List.setIfInBounds_toArray, List.set_cons_zero, List.set_cons_succ])
      refine tree_q (v := ?v1_14) (some 64) rfl rfl rfl ?q1_14 ?h1_14; (case q1_14 => (intro w' hS; obtain ⟨s1, s2, s3⟩ := hS; first | (go_simp; done) | (go_simp; rfl))); (try simp only [Act.put, List.setIfInBounds_toArray, List.set_cons_zero, List.set_cons_succ])
      refine tree_q (v := ?v1_13) (some 65) rfl rfl rfl ?q1_13 ?h1_13; (case q1_13 => (intro w' hS; obtain ⟨s1, s2, s3⟩ := hS; first | (go_simp; done) | (go_simp; rfl))); (try simp only [Act.put, List.setIfInBounds_toArray, List.set_cons_zero, List.set_cons_succ])
      refine tree_q (v := ?v1_12) (some 66) rfl rfl rfl ?q1_12 ?h1_12; (case q1_12 => (intro w' hS; obtain ⟨s1, s2, s3⟩ := hS; first | (go_simp; done) | (go_simp; rfl))); (try simp only [Act.put, List.setIfInBounds_toArray, List.set_cons_zero, List.set_cons_succ])
      refine tree_q (v := ?v1_11) (some 67) rfl rfl rfl ?q1_11 ?h1_11; (case q1_11 => (intro w' hS; obtain ⟨s1, s2, s3⟩ := hS; first | (go_simp; done) | (go_simp; rfl))); (try simp only [Act.put, List.setIfInBounds_toArray, List.set_cons_zero, List.set_cons_succ])
      refine tree_q (v := ?v1_10) (some 68) rfl rfl rfl ?q1_10 ?h1_10; (case q1_10 => (intro w' hS; obtain ⟨s1, s2, s3⟩ := hS; first | (go_simp; done) | (go_simp; rfl))); (try simp only [Act.put, List.setIfInBounds_toArray, List.set_cons_zero, List.set_cons_succ])
      refine tree_q (v := ?v1_9) (some 69) rfl rfl rfl ?q1_9 ?h1_9; (case q1_9 => (intro w' hS; obtain ⟨s1, s2, s3⟩ := hS; first | (go_simp; done) | (go_simp; rfl))); (try simp only [Act.put, List.setIfInBounds_toArray, List.set_cons_zero, List.set_cons_succ])
      refine tree_q (v := ?v1_8) (some 70) rfl rfl rfl ?q1_8 ?h1_8; (case q1_8 => (intro w' hS; obtain ⟨s1, s2, s3⟩ := hS; first | (go_simp; done) | (go_simp; rfl))); (try simp only [Act.put, List.setIfInBounds_toArray, List.set_cons_zero, List.set_cons_succ])
      refine tree_q (v := ?v1_7) (some 71) rfl rfl rfl ?q1_7 ?h1_7; (case q1_7 => (intro w' hS; obtain ⟨s1, s2, s3⟩ := hS; first | (go_simp; done) | (go_simp; rfl))); (try simp only [Act.put, List.setIfInBounds_toArray, List.set_cons_zero, List.set_cons_succ])
      refine tree_q (v := ?v1_6) (some 72) rfl rfl rfl ?q1_6 ?h1_6; (case q1_6 => (intro w' hS; obtain ⟨s1, s2, s3⟩ := hS; first | (go_simp; done) | (go_simp; rfl))); (try simp only [Act.put, List.setIfInBounds_toArray, List.set_cons_zero, List.set_cons_succ])
      refine tree_q (v := ?v1_5) (some 73) rfl rfl rfl ?q1_5 ?h1_5; (case q1_5 => (intro w' hS; obtain ⟨s1, s2, s3⟩ := hS; first | (go_simp; done) | (go_simp; rfl))); (try simp only [Act.put, List.setIfInBounds_toArray, List.set_cons_zero, List.set_cons_succ])
      refine tree_q (v := ?v1_4) (some 74) rfl rfl rfl ?q1_4 ?h1_4; (case q1_4 => (intro w' hS; obtain ⟨s1, s2, s3⟩ := hS; first | (go_simp; done) | (go_simp; rfl))); (try simp only [Act.put, List.setIfInBounds_toArray, List.set_cons_zero, List.set_cons_succ])
      refine tree_q (v := ?v1_3) (some 75) rfl rfl rfl ?q1_3 ?h1_3; (case q1_3 => (intro w' hS; obtain ⟨s1, s2, s3⟩ := hS; first | (go_simp; done) | (go_simp; rfl))); (try simp only [Act.put, List.setIfInBounds_toArray, List.set_cons_zero, List.set_cons_succ])
      refine tree_b rfl rfl ?b1_1 ?nb1_1
      case' b1_1 =>   -- 14: call F35(t62, t75)
        go_wp2_with (go_at_call 35; go_must (refine (HrunG.out _ (by first | exact HkB.out | exact Hdr.out)).mono ?_; rintro e w14 ⟨⟨b14, rfl⟩, hk14, hp14⟩))
        have Hp14 := Lib.hid hp14
        clear hp14
        (try simp only [Act.put, List.setIfInBounds_toArray, List.set_cons_zero, List.set_cons_succ])
        have f2 := hk14.cell f2 (by have := Hg.out; show ¬ (g3 = kb ∨ g3 = nb); omega)
        have hc6 := hk14.cell hc6 (by have := Hg.out; have := HG1'.out; show ¬ (g6 = kb ∨ g6 = nb); omega)
        have fq1 := hk14.cell fq1 (fun hm : b = kb ∨ b = nb => hm.elim (fun e => Hp.out.xk (e ▸ HXb.out)) (fun e => Hp.out.xn (e ▸ HXb.out)))
        refine ⟨⟨f2, hc6, fq1⟩, ?_⟩
        refine tree_e rfl rfl ?_   -- 15: alloc 80
        go_must (refine ev_alloc rfl rfl zero80 rfl ?_; intro g10 w15 hg10 hl10 hb10 hk15)
        have Hb10 := Lib.hid hb10
        (try have HkB := Lib.hid (Hdr.out.trans hk15 (fun _ _ h => h)))
        clear hb10
        (try simp only [Act.put, List.setIfInBounds_toArray, List.set_cons_zero, List.set_cons_succ])
        have f2 := hk15.cell f2 id
        have hc6 := hk15.cell hc6 id
        have fq1 := hk15.cell fq1 id
        refine wpList_nil ⟨⟨f2, hc6, fq1⟩, ?_⟩
        refine tree_e rfl rfl ?_   -- 16: store 80 t10 t76
        have Hg10 : Hid (wr.heap.size ≤ g10) := Lib.hid (by first | exact hg10 | (have := hk14.size; exact Nat.le_trans hk14.size hg10))
        have hgr : w.heap.size ≤ wr.heap.size := HKw.out.size
        go_must (refine ev_store (cs' := #[.bool b14, .int .i64 bn, .int .i64 bc, .int .i64 be]) rfl rfl rfl rfl rfl rfl HI.out.1.1 HI.out.1.2 rfl (by first | exact Hb10.out | exact hk14.blk Hb10.out (by have := Hg.out; have := Hg10.out; show ¬ (g10 = kb ∨ g10 = nb); omega)) (Nat.le_of_ble_eq_true rfl) rfl ?_; intro w16 hb16 hk16)
        have f2 := hk16.cell f2 (by have h1 := Hg.out; have h2 := Hg10.out; have h3 := hst.out.keep.size; show ¬ (g3 = g10); omega)
        have hc6 := hk16.cell hc6 (by have h1 := Hg10.out; have h2 : g6 < wr.heap.size := (hst.out.ownFar g6 rfl).2; show ¬ (g6 = g10); omega)
        have fq1 := hk16.cell fq1 (by have h1 := Hg10.out; have h2 : b < wr.heap.size := World.block_lt_of_cell? _ _ Fq.out; show ¬ (b = g10); omega)
        refine wpList_nil ⟨⟨f2, hc6, fq1⟩, ?_⟩
        refine tree_nil ?_
      case' nb1_1 =>
        refine tree_e rfl rfl ?b1_2
        case' b1_2 =>   -- 15: alloc 80
          go_must (refine ev_alloc rfl rfl zero80 rfl ?_; intro g10 w15 hg10 hl10 hb10 hk15)
          have Hb10 := Lib.hid hb10
          (try have HkB := Lib.hid (Hdr.out.trans hk15 (fun _ _ h => h)))
          clear hb10
          (try simp only [Act.put, List.setIfInBounds_toArray, List.set_cons_zero, List.set_cons_succ])
          have f2 := hk15.cell f2 id
          have hc6 := hk15.cell hc6 id
          have fq1 := hk15.cell fq1 id
          refine wpList_nil ⟨⟨f2, hc6, fq1⟩, ?_⟩
          refine tree_e rfl rfl ?_   -- 14: call F35(t62, t75)
          go_wp2_with (go_at_call 35; go_must (refine (HrunG.out _ (by first | exact HkB.out | exact Hdr.out)).mono ?_; rintro e w14 ⟨⟨b14, rfl⟩, hk14, hp14⟩))
          have Hp14 := Lib.hid hp14
          clear hp14
          (try simp only [Act.put, List.setIfInBounds_toArray, List.set_cons_zero, List.set_cons_succ])
          have f2 := hk14.cell f2 (by have := Hg.out; show ¬ (g3 = kb ∨ g3 = nb); omega)
          have hc6 := hk14.cell hc6 (by have := Hg.out; have := HG1'.out; show ¬ (g6 = kb ∨ g6 = nb); omega)
          have fq1 := hk14.cell fq1 (fun hm : b = kb ∨ b = nb => hm.elim (fun e => Hp.out.xk (e ▸ HXb.out)) (fun e => Hp.out.xn (e ▸ HXb.out)))
          refine ⟨⟨f2, hc6, fq1⟩, ?_⟩
          refine tree_e rfl rfl ?_   -- 16: store 80 t10 t76
          have Hg10 : Hid (wr.heap.size ≤ g10) := Lib.hid (by first | exact hg10 | (have := hk14.size; exact Nat.le_trans hk14.size hg10))
          have hgr : w.heap.size ≤ wr.heap.size := HKw.out.size
          go_must (refine ev_store (cs' := #[.bool b14, .int .i64 bn, .int .i64 bc, .int .i64 be]) rfl rfl rfl rfl rfl rfl HI.out.1.1 HI.out.1.2 rfl (by first | exact Hb10.out | exact hk14.blk Hb10.out (by have := Hg.out; have := Hg10.out; show ¬ (g10 = kb ∨ g10 = nb); omega)) (Nat.le_of_ble_eq_true rfl) rfl ?_; intro w16 hb16 hk16)
          have f2 := hk16.cell f2 (by have h1 := Hg.out; have h2 := Hg10.out; have h3 := hst.out.keep.size; show ¬ (g3 = g10); omega)
          have hc6 := hk16.cell hc6 (by have h1 := Hg10.out; have h2 : g6 < wr.heap.size := (hst.out.ownFar g6 rfl).2; show ¬ (g6 = g10); omega)
          have fq1 := hk16.cell fq1 (by have h1 := Hg10.out; have h2 : b < wr.heap.size := World.block_lt_of_cell? _ _ Fq.out; show ¬ (b = g10); omega)
          refine wpList_nil ⟨⟨f2, hc6, fq1⟩, ?_⟩
          refine tree_nil ?_
      all_goals
        have hgr : w.heap.size ≤ wr.heap.size := HKw.out.size
        have hkr : Keeps (fun x => x = kb ∨ x = nb ∨ x = g10) wr w16 := by
          first
          | exact ((Hdr.out.mono (M' := fun x => x = kb ∨ x = nb ∨ x = g10) (fun _ _ h => h.elim)).trans (hk14.trans hk15 (fun _ _ h => h.elim)) (fun _ _ h => h.imp id .inl)).into hk16 (.inr (.inr rfl))
          | exact ((Hdr.out.mono (M' := fun x => x = kb ∨ x = nb ∨ x = g10) (fun _ _ h => h.elim)).trans ((hk15.mono (M' := fun x => x = kb ∨ x = nb) (fun _ _ h => h.elim)).trans hk14 (fun _ _ h => h)) (fun _ _ h => h.imp id .inl)).into hk16 (.inr (.inr rfl))
        have hkz : Keeps (fun x => x = kb ∨ x = nb) w w16 := HKw.out.trans hkr (fun i hi hm => by have h1 := Hg10.out; rcases hm with hm | hm | hm; exact .inl hm; exact .inr hm; omega)
        have h2z : Keeps (· = g10) w14 w16 := by
          first
          | exact hk16
          | exact (hk15.mono (fun _ _ h => h.elim)).trans hk16 (fun _ _ h => h)
        have hpz := Hp.out.mix hkz Hp14.out h2z (by have h1 := Hg.out; have h2 := Hg10.out; show ¬ (kb = g10); omega) (by have h1 := Hg.out; have h2 := Hg10.out; show ¬ (nb = g10); omega)
        have hb5z := hkr.blk hst.out.out (by have h1 := Hg.out; have h2 := Hg10.out; have h3 := hst.out.keep.size; show ¬ (g5 = kb ∨ g5 = nb ∨ g5 = g10); omega)
        have hb4z := hkr.blk Hb4r.out (by have h1 := Hg.out; have h2 := Hg10.out; have h3 := hst.out.keep.size; show ¬ (g4 = kb ∨ g4 = nb ∨ g4 = g10); omega)
        have d2 := (blk_cell hb5z 2).trans rfl
        have e1 := (blk_cell hb16 1).trans rfl
        have e2 := (blk_cell hb16 2).trans rfl
        have e3 := (blk_cell hb16 3).trans rfl
        have Hb4z := Lib.hid hb4z
        have Hkz := Lib.hid hkz
        have Hpz := Lib.hid hpz
        clear hb4z hb5z hb16 hkz hpz h2z hkr
        go_wp2_with (first
          | ((with_reducible refine at_dst (N := 84) rfl ?_); go_must (refine ev_min rfl rfl (p := c + bc) (q := 1048576) rfl rfl (capM_min Hm2.out) ?_); (try simp only [Act.put, List.setIfInBounds_toArray, List.set_cons_zero, List.set_cons_succ]))
          | ((with_reducible refine at_store (t := 80) (p := 4) rfl ?_); go_must (refine ev_store (cs' := #[.bool false, .int .i64 bn, .int .i64 m2, .int .i64 be]) rfl rfl rfl rfl rfl rfl HI.out.1.1 HI.out.1.2 rfl Hb4z.out (Nat.le_of_ble_eq_true rfl) rfl ?_; intro w17 hb17 hk17); (try simp only [Act.put, List.setIfInBounds_toArray, List.set_cons_zero, List.set_cons_succ])))
        have r0 := (blk_cell hb17 0).trans rfl
        have r1 := (blk_cell hb17 1).trans rfl
        have r2 := (blk_cell hb17 2).trans rfl
        have r3 := (blk_cell hb17 3).trans rfl
        refine bodyPost_ret (v := .agg #[.bool false, .int .i64 bn, .int .i64 m2, .int .i64 be]) (by rw [results_cell1 rfl]; go_simp) rfl ?_
        have hRR := HRR.out
        rw [Hq0.out, Ha.out] at hRR
        simp only [Hae.out, ne_eq, not_true_eq_false, if_false, Hpe.out, Hr2.out, ← Hca.out, Hm2.out] at hRR
        rw [← hRR]
        exact ⟨⟨false, rfl⟩, Hkz.out.own hk17 (by have h1 := Hg.out; omega), Hp.out.mix (Hkz.out.own hk17 (by have h1 := Hg.out; omega)) Hpz.out hk17 (by have h1 := Hg.out; show ¬ (kb = g4); omega) (by have h1 := Hg.out; show ¬ (nb = g4); omega)⟩
/-- A RULE, of any kind but an input's. -/
theorem rrule_any {E : Env} {on : List Int} {rask : RAsk} (IH : RAskOK E on rask) (hG : RGood E.rules.length rask) (w : World) (X Y : Nat → Prop) (pb kb nb : Nat) (s : Known) (asv : Value) (r : QRule) (hr : ROk E.rules.length r) (h1 : r.kind ≠ 1)
    (hp : PlainAt w X Y pb kb nb E.rules E.inp on s) (hkb : KB E.rules.length s) (hx : IntsX w X asv r.asks) :
    Calls Tryd.prog 55 #[.pointer (some ⟨pb, 0, none⟩), .agg #[.int .i64 r.kind, .int .i64 r.n, asv]] w (RAns w X Y pb kb nb E on (rRule rask s r)) := by
  by_cases h3 : r.kind = 3
  · exact rrule_pick IH hG w X Y pb kb nb s asv r hr h3 hp hkb hx
  · exact rrule_loop IH hG w X Y pb kb nb s asv r hr h1 h3 hp hkb hx
end Go.Proofs.QW

/-
  The specification's Plain asks (f35), in memory: it comes to the model's 'rAsk', however deep. Condition: rules and inputs as the model's environment has them.
-/
namespace Go.Proofs.QW
open Go.RowKit Go.Proofs.KL Go.Proofs.QM
set_option maxRecDepth 100000
set_option linter.unusedSimpArgs false
set_option linter.unusedVariables false

theorem infoS4 : ∃ i, Tryd.prog.info? 4 = some i ∧ i.size = 1 := by
  have h : (Tryd.prog.info? 4).map (·.size) = some 1 := by kernel_rfl
  obtain ⟨i, hi, hs⟩ := Option.map_eq_some_iff.1 h
  exact ⟨i, hi, hs⟩
theorem psplice_get {cs : Array Value} {vs : List Value} {off : Nat} (h : off + vs.length ≤ cs.size) (j : Nat) :
    ((cs.toList.take off ++ vs ++ cs.toList.drop (off + vs.length)).toArray)[j]? = if off ≤ j ∧ j < off + vs.length then vs[j - off]? else cs[j]? := by
  have hl : (cs.toList.take off).length = off := by rw [List.length_take, Array.length_toList]; omega
  rw [List.getElem?_toArray, List.append_assoc]
  by_cases h1 : j < off
  · rw [if_neg (by omega), List.getElem?_append_left (by omega), List.getElem?_take, if_pos h1, Array.getElem?_toList]
  · rw [List.getElem?_append_right (by omega), hl]
    by_cases h2 : j < off + vs.length
    · rw [if_pos (by omega), List.getElem?_append_left (by omega)]
    · rw [if_neg (by omega), List.getElem?_append_right (by omega), List.getElem?_drop, Array.getElem?_toList]
      congr 1; omega
theorem pget_size {cs : Array Value} {i : Nat} {v : Value} (h : cs[i]? = some v) : i < cs.size := by
  rcases Nat.lt_or_ge i cs.size with h' | h'
  · exact h'
  · rw [Array.getElem?_eq_none h'] at h; cases h
/-- A question is opened, or shut. -/
theorem OnX.put {w w' : World} {nb n q : Nat} {on on' : List Int} {b : Bool} {cs : Array Value} (h : ∀ i : Nat, i < n → cs[i]? = some (.bool (decide ((i : Int) ∈ on)))) (hq : q < n)
    (hb : w'.heap[nb]? = some (.cells ((cs.toList.take q ++ [Value.bool b] ++ cs.toList.drop (q + [Value.bool b].length)).toArray) 4 (0, 0))) (hon : ∀ i : Nat, i < n → decide ((i : Int) ∈ on') = if i = q then b else decide ((i : Int) ∈ on)) : OnX w' nb n on' := by
  refine ⟨_, hb, fun i hi => ?_⟩
  have hs := pget_size (h q hq)
  rw [psplice_get (by rw [List.length_singleton]; omega), hon i hi]
  simp only [List.length_cons, List.length_nil]
  by_cases e : i = q
  · subst e; rw [if_pos (by omega), if_pos rfl]; simp
  · rw [if_neg (by omega), if_neg e]; exact h i hi
theorem KnownX.put {w w' : World} {kb n q : Nat} {k : Known} {x c : Int} {cs : Array Value} (hl : k.length = n) (h : ∀ i, i < n → cs[i * 4]? = some (.bool (k.getD i none).isSome) ∧ cs[i * 4 + 1]? = some (.int .i64 ((k.getD i none).getD (0, 0)).1) ∧
    cs[i * 4 + 2]? = some (.int .i64 ((k.getD i none).getD (0, 0)).2) ∧ cs[i * 4 + 3]? = some (.int .i64 0)) (hq : q < n)
    {vs : List Value} (hvs : vs = [.bool true, .int .i64 x, .int .i64 c, .int .i64 0])
    (hb : w'.heap[kb]? = some (.cells ((cs.toList.take (q * 4) ++ vs ++ cs.toList.drop (q * 4 + vs.length)).toArray) 80 (0, 0))) : KnownX w' kb n (k.set q (some (x, c))) := by
  refine ⟨_, hb, fun i hi => ?_⟩
  have hs := pget_size (h q hq).2.2.2
  have hv : vs.length = 4 := by rw [hvs]; rfl
  have hsp := fun j => psplice_get (cs := cs) (vs := vs) (off := q * 4) (by omega) j
  rw [hsp, hsp, hsp, hsp, hv]
  by_cases e : i = q
  · subst e
    rw [if_pos (by omega), if_pos (by omega), if_pos (by omega), if_pos (by omega), hvs]
    rw [show i * 4 - i * 4 = 0 by omega, show i * 4 + 1 - i * 4 = 1 by omega, show i * 4 + 2 - i * 4 = 2 by omega, show i * 4 + 3 - i * 4 = 3 by omega]
    rw [List.getD_eq_getElem?_getD, List.getElem?_set, if_pos rfl, if_pos (by omega)]
    exact ⟨rfl, rfl, rfl, rfl⟩
  · rw [if_neg (by omega), if_neg (by omega), if_neg (by omega), if_neg (by omega)]
    rw [List.getD_eq_getElem?_getD, List.getElem?_set, if_neg (fun h => e h.symm), ← List.getD_eq_getElem?_getD]
    exact h i hi

theorem PlainAt.apart {w : World} {X Y : Nat → Prop} {pb kb nb : Nat} {rules : List QRule} {vs on : List Int} {k : Known} (h : PlainAt w X Y pb kb nb rules vs on k) : pb ≠ kb ∧ pb ≠ nb ∧ kb ≠ nb := by
  obtain ⟨⟨rv, iv, hb, _, _⟩, ⟨ck, hk1, _⟩, ⟨cn, hn1, _⟩, _, _, _, _⟩ := h
  refine ⟨fun e => ?_, fun e => ?_, fun e => ?_⟩
  · subst e; have := hb.symm.trans hk1; injection this with this; injection this with _ this _; exact absurd this (by decide)
  · subst e; have := hb.symm.trans hn1; injection this with this; injection this with _ this _; exact absurd this (by decide)
  · subst e; have := hk1.symm.trans hn1; injection this with this; injection this with _ this _; exact absurd this (by decide)
theorem PlainAt.reopen {w w' : World} {X Y : Nat → Prop} {pb kb nb : Nat} {rules : List QRule} {vs on on' : List Int} {k : Known} (h : PlainAt w X Y pb kb nb rules vs on k) (hk : Keeps (· = nb) w w') (ho : OnX w' nb rules.length on') : PlainAt w' X Y pb kb nb rules vs on' k := by
  obtain ⟨_, n2, n3⟩ := h.apart
  obtain ⟨⟨rv, iv, hb, hr, hv⟩, h1, h2, x1, x2, y1, y2⟩ := h
  exact ⟨⟨rv, iv, hk.blk hb n2, hr.keep hk (fun b _ hx e => x2 (e ▸ hx)) (fun _ _ h => h), hv.keep hk (fun b _ hx e => y2 (e ▸ hx)) (fun _ _ h => h)⟩, h1.keep hk n3, ho, x1, x2, y1, y2⟩
theorem PlainAt.learn {w w' : World} {X Y : Nat → Prop} {pb kb nb : Nat} {rules : List QRule} {vs on : List Int} {k k' : Known} (h : PlainAt w X Y pb kb nb rules vs on k) (hk : Keeps (· = kb) w w') (ho : KnownX w' kb rules.length k') : PlainAt w' X Y pb kb nb rules vs on k' := by
  obtain ⟨n1, _, n3⟩ := h.apart
  obtain ⟨⟨rv, iv, hb, hr, hv⟩, h1, h2, x1, x2, y1, y2⟩ := h
  exact ⟨⟨rv, iv, hk.blk hb n1, hr.keep hk (fun b _ hx e => x1 (e ▸ hx)) (fun _ _ h => h), hv.keep hk (fun b _ hx e => y1 (e ▸ hx)) (fun _ _ h => h)⟩, ho, h2.keep hk (fun e => n3 e.symm), x1, x2, y1, y2⟩
set_option maxHeartbeats 4000000 in
/-- One level. -/
theorem plain_ask {E : Env} (hE : EnvOk E) {on : List Int} (f : Nat) (w : World) (X Y : Nat → Prop) (pb kb nb : Nat) (s : Known) (q : Int) (IH : q ∉ on → RAskOK E (q :: on) (rAsk E.rules E.inp f (q :: on)))
    (hp : PlainAt w X Y pb kb nb E.rules E.inp on s) (hkb : KB E.rules.length s) (hq : InQ E q) :
    Calls Tryd.prog 35 #[.pointer (some ⟨pb, 0, none⟩), .int .i64 q] w (RAns w X Y pb kb nb E on (rAsk E.rules E.inp (f + 1) on s q)) := by
  obtain ⟨RR, hRR⟩ : ∃ x, rAsk E.rules E.inp (f + 1) on s q = x := ⟨_, rfl⟩
  rw [hRR]
  unfold rAsk at hRR
  have HRR := Lib.hid hRR
  clear hRR
  obtain ⟨⟨rv, iv, hpb, hrx, hix⟩, ⟨ck, hkbk, hkc⟩, ⟨cn, hnbk, hnc⟩, -, -, -, -⟩ := id hp
  have h200 := hE.len
  have hil := hE.ilen
  have hr := hE.rok _ (rule_mem hq)
  have hG := rAsk_good hE f (q :: on)
  obtain ⟨lkb, lnb⟩ := hp.lts
  obtain ⟨i, rfl⟩ := Int.eq_ofNat_of_zero_le hq.1
  have hin : i < E.rules.length := by have := hq.2; omega
  have hrule : E.rule (i : Int) = E.rules.getD i default := by unfold Env.rule; rw [Int.toNat_natCast]
  obtain ⟨rA, rc, rfl, hrc, hrcell⟩ := id hrx
  obtain ⟨b, o, u, rfl, hb, e0, e1, e2, hu⟩ := hrcell i hin
  obtain ⟨uA, uc, rfl, -, -⟩ := id hu
  rw [hrule] at hr
  have HRR' := HRR.out
  simp only [Int.toNat_natCast] at HRR'
  have HRR := Lib.hid HRR'
  clear HRR'
  generalize hrd : E.rules.getD i default = r at *
  have p0 := (blk_cell hpb 0).trans rfl
  have p1 := (blk_cell hpb 1).trans rfl
  have p2 := (blk_cell hpb 2).trans rfl
  have p3 := (blk_cell hpb 3).trans rfl
  have n0 := (blk_cell hnbk i).trans (hnc i hin)
  obtain ⟨k0, k1, k2, k3⟩ := hkc i hin
  have k0 := (blk_cell hkbk (i * 4)).trans k0
  have k1 := (blk_cell hkbk (i * 4 + 1)).trans k1
  have k2 := (blk_cell hkbk (i * 4 + 2)).trans k2
  have k3 := (blk_cell hkbk (i * 4 + 3)).trans k3
  obtain ⟨i80, hi80, hs80⟩ := info80
  obtain ⟨i4, hi4, hs4⟩ := infoS4
  have HI := Lib.hid (And.intro (And.intro hi80 hs80) (And.intro hi4 hs4))
  have Hp := Lib.hid hp
  have Hix := Lib.hid hix
  have HK := Lib.hid hkb
  have HIH := Lib.hid IH
  have Hr := Lib.hid hr
  have HG := Lib.hid hG
  have Hq := Lib.hid hq
  have Hu := Lib.hid hu
  have Hkc := Lib.hid hkc
  have Hnc := Lib.hid hnc
  have Hkbk := Lib.hid hkbk
  have Hnbk := Lib.hid hnbk
  have Hpb := Lib.hid hpb
  have Hil := Lib.hid hil
  have Hhb := Lib.hid hb
  have Hl := Lib.hid (And.intro lkb lnb)
  clear hp hix hkb IH hr hG hq hu hkc hnc hkbk hnbk hpb hil hrx hrcell hi80 hs80 hi4 hs4 hrule hrd hb
  by_cases hk1 : r.kind = 1
  · have hR := HRR.out
    rw [if_pos hk1] at hR
    have hkb' : (r.kind == 1) = true := by simp [hk1]
    obtain ⟨vA, vc, rfl, -, hvc⟩ := id Hix.out
    obtain ⟨vb, vo, rfl, -, hv⟩ := hvc i (by rw [Hil.out]; exact hin)
    rw [Hil.out] at *
    have HR := Lib.hid hR
    generalize hvv : E.inp.getD i 0 = iv0 at *
    clear hvc hR hk1 hvv
    go_enter Tryd.func35, Tryd.ntmps35
    go_wp2_with (first
      | ((with_reducible refine at_dst (N := 4) rfl ?_); go_must (refine ev_alloc rfl rfl zero80 rfl ?_; intro g4 w4 hg4 hl4 hb4 hk4)
         have Hb4 := Lib.hid hb4
         clear hb4
         have p0 := hk4.cell p0 id
         have p1 := hk4.cell p1 id
         have p2 := hk4.cell p2 id
         have p3 := hk4.cell p3 id
         have e0 := hk4.cell e0 id
         have e1 := hk4.cell e1 id
         have e2 := hk4.cell e2 id
         have n0 := hk4.cell n0 id
         have k0 := hk4.cell k0 id
         (try have k1 := hk4.cell k1 id)
         (try have k2 := hk4.cell k2 id)
         (try have k3 := hk4.cell k3 id)
         (try have hv := hk4.cell hv id)
         (try simp only [Act.put, List.setIfInBounds_toArray, List.set_cons_zero, List.set_cons_succ]))
      | ((with_reducible refine at_store (t := 80) (p := 4) rfl ?_); go_must (refine ev_store (cs' := #[.bool false, .int .i64 iv0, .int .i64 0, .int .i64 0]) rfl rfl rfl rfl rfl rfl HI.out.1.1 HI.out.1.2 rfl Hb4.out (Nat.le_of_ble_eq_true rfl) rfl ?_; intro w5 hb5 hk5); (try simp only [Act.put, List.setIfInBounds_toArray, List.set_cons_zero, List.set_cons_succ])))
    have r0 := (blk_cell hb5 0).trans rfl
    have r1 := (blk_cell hb5 1).trans rfl
    have r2 := (blk_cell hb5 2).trans rfl
    have r3 := (blk_cell hb5 3).trans rfl
    refine bodyPost_ret (v := .agg #[.bool false, .int .i64 iv0, .int .i64 0, .int .i64 0]) (by rw [results_cell1 rfl]; go_simp) rfl ?_
    rw [← HR.out]
    have hkk : Keeps Nob w w5 := hk4.own hk5 hg4
    exact ⟨⟨false, rfl⟩, hkk.mono (fun _ _ h => h.elim), Hp.out.keep hkk⟩
  · have hR := HRR.out
    rw [if_neg hk1] at hR
    have hkb' : (r.kind == 1) = false := by simpa using hk1
    have Hk1 := Lib.hid hk1
    clear hk1
    by_cases hon : (i : Int) ∈ on
    · rw [if_pos hon] at hR
      have HR := Lib.hid hR
      have hnv : decide ((i : Int) ∈ on) = true := decide_eq_true hon
      rw [hnv] at n0
      clear hR hnv hon
      go_enter Tryd.func35, Tryd.ntmps35
      go_wp2_with (first
        | ((with_reducible refine at_dst (N := 4) rfl ?_); go_must (refine ev_alloc rfl rfl zero80 rfl ?_; intro g4 w4 hg4 hl4 hb4 hk4)
           have Hb4 := Lib.hid hb4
           clear hb4
           have p0 := hk4.cell p0 id
           have p1 := hk4.cell p1 id
           have p2 := hk4.cell p2 id
           have p3 := hk4.cell p3 id
           have e0 := hk4.cell e0 id
           have e1 := hk4.cell e1 id
           have e2 := hk4.cell e2 id
           have n0 := hk4.cell n0 id
           have k0 := hk4.cell k0 id
           (try have k1 := hk4.cell k1 id)
           (try have k2 := hk4.cell k2 id)
           (try have k3 := hk4.cell k3 id)
           (try have hv := hk4.cell hv id)
           (try simp only [Act.put, List.setIfInBounds_toArray, List.set_cons_zero, List.set_cons_succ]))
        | ((with_reducible refine at_store (t := 80) (p := 4) rfl ?_); go_must (refine ev_store (cs' := #[.bool false, .int .i64 0, .int .i64 0, .int .i64 8]) rfl rfl rfl rfl rfl rfl HI.out.1.1 HI.out.1.2 rfl Hb4.out (Nat.le_of_ble_eq_true rfl) rfl ?_; intro w5 hb5 hk5); (try simp only [Act.put, List.setIfInBounds_toArray, List.set_cons_zero, List.set_cons_succ])))
      have r0 := (blk_cell hb5 0).trans rfl
      have r1 := (blk_cell hb5 1).trans rfl
      have r2 := (blk_cell hb5 2).trans rfl
      have r3 := (blk_cell hb5 3).trans rfl
      refine bodyPost_ret (v := .agg #[.bool false, .int .i64 0, .int .i64 0, .int .i64 8]) (by rw [results_cell1 rfl]; go_simp) rfl ?_
      rw [← HR.out]
      have hkk : Keeps Nob w w5 := hk4.own hk5 hg4
      exact ⟨⟨false, rfl⟩, hkk.mono (fun _ _ h => h.elim), Hp.out.keep hkk⟩
    · rw [if_neg hon] at hR
      have hnv : decide ((i : Int) ∈ on) = false := decide_eq_false hon
      rw [hnv] at n0
      have Hon := Lib.hid hon
      clear hnv hon
      cases hkn : s.getD i none with
      | some x =>
        obtain ⟨kn, kc⟩ := x
        rw [hkn] at k0 k1 k2 hR
        simp only [Option.isSome_some, Option.getD_some] at k0 k1 k2 hR
        have HR := Lib.hid hR
        clear hR hkn
        go_enter Tryd.func35, Tryd.ntmps35
        go_wp2_with (first
          | ((with_reducible refine at_dst (N := 4) rfl ?_); go_must (refine ev_alloc rfl rfl zero80 rfl ?_; intro g4 w4 hg4 hl4 hb4 hk4)
             have Hb4 := Lib.hid hb4
             clear hb4
             have p0 := hk4.cell p0 id
             have p1 := hk4.cell p1 id
             have p2 := hk4.cell p2 id
             have p3 := hk4.cell p3 id
             have e0 := hk4.cell e0 id
             have e1 := hk4.cell e1 id
             have e2 := hk4.cell e2 id
             have n0 := hk4.cell n0 id
             have k0 := hk4.cell k0 id
             (try have k1 := hk4.cell k1 id)
             (try have k2 := hk4.cell k2 id)
             (try have k3 := hk4.cell k3 id)
             (try have hv := hk4.cell hv id)
             (try simp only [Act.put, List.setIfInBounds_toArray, List.set_cons_zero, List.set_cons_succ]))
          | ((with_reducible refine at_store (t := 80) (p := 4) rfl ?_); go_must (refine ev_store (cs' := #[.bool true, .int .i64 kn, .int .i64 kc, .int .i64 0]) rfl rfl rfl rfl rfl rfl HI.out.1.1 HI.out.1.2 rfl Hb4.out (Nat.le_of_ble_eq_true rfl) rfl ?_; intro w5 hb5 hk5); (try simp only [Act.put, List.setIfInBounds_toArray, List.set_cons_zero, List.set_cons_succ])))
        have r0 := (blk_cell hb5 0).trans rfl
        have r1 := (blk_cell hb5 1).trans rfl
        have r2 := (blk_cell hb5 2).trans rfl
        have r3 := (blk_cell hb5 3).trans rfl
        refine bodyPost_ret (v := .agg #[.bool true, .int .i64 kn, .int .i64 kc, .int .i64 0]) (by rw [results_cell1 rfl]; go_simp) rfl ?_
        rw [← HR.out]
        have hkk : Keeps Nob w w5 := hk4.own hk5 hg4
        exact ⟨⟨true, rfl⟩, hkk.mono (fun _ _ h => h.elim), Hp.out.keep hkk⟩
      | none =>
        rw [hkn] at k0 hR
        simp only [Option.isSome_none] at k0 hR
        clear k1 k2 k3 hkn
        have hgd := rRule_good HG.out Hr.out HK.out
        rcases hrr : rRule (rAsk E.rules E.inp f (↑i :: on)) s r with ⟨s1, a⟩
        rw [hrr] at hR hgd
        obtain ⟨an, ac, ae⟩ := a
        simp only at hR hgd
        obtain ⟨g1, ⟨g2, g2'⟩, g3⟩ := hgd
        have hcall : ∀ wx, PlainAt wx X Y pb kb nb E.rules E.inp (↑i :: on) s → IntsX wx X (.slice uA r.asks.length uc) r.asks → Calls Tryd.prog 55 #[.pointer (some ⟨pb, 0, none⟩), .agg #[.int .i64 r.kind, .int .i64 r.n, .slice uA r.asks.length uc]] wx (RAns wx X Y pb kb nb E (↑i :: on) (s1, ⟨an, ac, ae⟩)) := fun wx h1 h2 => by
          have := rrule_any (HIH.out Hon.out) HG.out wx X Y pb kb nb s _ r Hr.out Hk1.out h1 HK.out h2
          rw [hrr] at this
          exact this
        have Hcall := Lib.hid hcall
        have HR := Lib.hid hR
        have G1 := Lib.hid g1
        have G3 := Lib.hid g3
        obtain ⟨pn1, pn2, kn3⟩ := Hp.out.apart
        have hbn : b ≠ nb := fun e => Hp.out.xn (e ▸ Hhb.out)
        have hbk : b ≠ kb := fun e => Hp.out.xk (e ▸ Hhb.out)
        have hsz := pget_size (Hnc.out i hin)
        have HF := Lib.hid (And.intro (And.intro (And.intro pn1 pn2) kn3) (And.intro hbn hbk))
        have Hsz := Lib.hid hsz
        clear hcall hR g1 g3 hrr pn1 pn2 kn3 hbn hbk hsz
        go_enter Tryd.func35, Tryd.ntmps35
        by_cases hae : ae = 0
        · have haeb : (ae == 0) = true := by simp [hae]
          have Hae := Lib.hid hae
          clear hae
          go_wp2_with (first
            | ((with_reducible refine at_dst (N := 4) rfl ?_); go_must (refine ev_alloc rfl rfl zero80 rfl ?_; intro g4 w4 hg4 hl4 hb4 hk4)
               have Hb4 := Lib.hid hb4
               clear hb4
               have p0 := hk4.cell p0 id
               have p1 := hk4.cell p1 id
               have p2 := hk4.cell p2 id
               have p3 := hk4.cell p3 id
               have e0 := hk4.cell e0 id
               have e1 := hk4.cell e1 id
               have e2 := hk4.cell e2 id
               have n0 := hk4.cell n0 id
               have k0 := hk4.cell k0 id
               (try have k1 := hk4.cell k1 id)
               (try have k2 := hk4.cell k2 id)
               (try have k3 := hk4.cell k3 id)
               (try have hv := hk4.cell hv id)
               (try simp only [Act.put, List.setIfInBounds_toArray, List.set_cons_zero, List.set_cons_succ]))
            | ((with_reducible refine at_store (t := 4) (p := 51) rfl ?_)
               go_must (refine ev_store (x := .bool true) (vs := [.bool true]) (cs' := List.toArray (cn.toList.take i ++ [Value.bool true] ++ cn.toList.drop (i + [Value.bool true].length))) rfl rfl rfl rfl rfl rfl HI.out.2.1 HI.out.2.2 rfl (hk4.blk Hnbk.out id) (by have := Hsz.out; exact this) rfl ?_; intro w7 hb7 hk7)
               have hk07 : Keeps (fun x => x = kb ∨ x = nb) w w7 := (hk4.mono (fun _ _ h => h.elim)).into hk7 (.inr rfl)
               go_must (have hp7 := (Hp.out.keep hk4).reopen hk7 (OnX.put (on' := ↑i :: on) (b := true) (w := w) Hnc.out hin hb7 (fun j hj => by by_cases e : j = i; subst e; simp; rw [if_neg e]; congr 1; simp; intro h; exact absurd (by omega) e)))
               go_must (have hu7 := (Hu.out.keep (X' := X) hk4 (fun _ _ _ => id) (fun _ _ h => h)).keep (X' := X) hk7 (fun b _ hx e => Hp.out.xn (e ▸ hx)) (fun _ _ h => h))
               have Hrun := Lib.hid (Hcall.out w7 hp7 hu7)
               have p0 := hk7.cell p0 HF.out.1.1.2
               have p2 := hk7.cell p2 HF.out.1.1.2
               have p3 := hk7.cell p3 HF.out.1.1.2
               have e0 := hk7.cell e0 HF.out.2.1
               have e1 := hk7.cell e1 HF.out.2.1
               have e2 := hk7.cell e2 HF.out.2.1
               have Hk07 := Lib.hid hk07
               clear hp7 hu7 hk07 hb7 n0
               (try simp only [Act.put, List.setIfInBounds_toArray, List.set_cons_zero, List.set_cons_succ]))
            | (go_at_call 55; go_must (refine Hrun.out.mono ?_; rintro e w8 ⟨⟨b8, rfl⟩, hk8, hp8⟩)
               have Hp8 := Lib.hid hp8
               have Hk08 := Lib.hid (Hk07.out.trans hk8 (fun _ _ h => h))
               have p2 := hk8.cell p2 (fun hm : pb = kb ∨ pb = nb => hm.elim HF.out.1.1.1 HF.out.1.1.2)
               have p3 := hk8.cell p3 (fun hm : pb = kb ∨ pb = nb => hm.elim HF.out.1.1.1 HF.out.1.1.2)
               clear hp8
               (try simp only [Act.put, List.setIfInBounds_toArray, List.set_cons_zero, List.set_cons_succ]))
            | ((with_reducible refine at_dst (N := 5) rfl ?_); go_must (refine ev_alloc rfl rfl zero80 rfl ?_; intro g5 w9 hg5 hl5 hb5 hk9)
               have Hb5 := Lib.hid hb5
               have p2 := hk9.cell p2 id
               have p3 := hk9.cell p3 id
               clear hb5
               (try simp only [Act.put, List.setIfInBounds_toArray, List.set_cons_zero, List.set_cons_succ]))
            | ((with_reducible refine at_store (t := 80) (p := 5) rfl ?_); go_must (refine ev_store (cs' := #[.bool b8, .int .i64 an, .int .i64 ac, .int .i64 ae]) rfl rfl rfl rfl rfl rfl HI.out.1.1 HI.out.1.2 rfl Hb5.out (Nat.le_of_ble_eq_true rfl) rfl ?_; intro w10 hb10 hk10)
               have p2 := hk10.cell p2 (by have h1 := World.block_lt_of_cell? _ _ p2; have h2 := Hk08.out.size; have h3 := blk_lt Hpb.out; show ¬ pb = g5; omega)
               have p3 := hk10.cell p3 (by have h1 := World.block_lt_of_cell? _ _ p3; have h2 := Hk08.out.size; have h3 := blk_lt Hpb.out; show ¬ pb = g5; omega)
               have Hg5 := Lib.hid (show w.heap.size ≤ g5 ∧ w4.heap.size ≤ g5 from ⟨by have h2 := Hk08.out.size; omega, by have h2 := hk7.size; have h3 := hk8.size; omega⟩)
               go_must (have Hk010 := Lib.hid ((Hk08.out.trans hk9 (fun _ _ h => h.elim)).own hk10 Hg5.out.1))
               go_must (have Hp10 := Lib.hid (Hp.out.mix Hk010.out Hp8.out ((hk9.mono (M' := (· = g5)) (fun _ _ h => h.elim)).trans hk10 (fun _ _ h => h)) (by have h1 := Hg5.out; have h2 := Hl.out; show ¬ kb = g5; omega) (by have h1 := Hg5.out; have h2 := Hl.out; show ¬ nb = g5; omega)))
               go_must (have hcn2 : ∃ cs : Array Value, w10.heap[nb]? = some (.cells cs 4 (0, 0)) ∧ Hid (∀ j : Nat, j < E.rules.length → cs[j]? = some (.bool (decide ((j : Int) ∈ (↑i :: on : List Int))))) := Hp10.out.open_; obtain ⟨cn2, hbn2, Hcn2⟩ := hcn2)
               have Hbn2 := Lib.hid hbn2
               have Hb10 := Lib.hid hb10
               have Hsz2 := Lib.hid (pget_size (Hcn2.out i hin))
               have f3 := (blk_cell hb10 3).trans rfl
               clear hbn2 hb10
               (try simp only [Act.put, List.setIfInBounds_toArray, List.set_cons_zero, List.set_cons_succ]))
            | ((with_reducible refine at_store (t := 4) (p := 66) rfl ?_)
               go_must (refine ev_store (x := .bool false) (vs := [.bool false]) (cs' := List.toArray (cn2.toList.take i ++ [Value.bool false] ++ cn2.toList.drop (i + [Value.bool false].length))) rfl rfl rfl rfl rfl rfl HI.out.2.1 HI.out.2.2 rfl Hbn2.out (by have := Hsz2.out; exact this) rfl ?_; intro w11 hb11 hk11)
               have p2 := hk11.cell p2 HF.out.1.1.2
               have f3 := hk11.cell f3 (by have h1 := Hg5.out; have h2 := Hl.out; show ¬ g5 = nb; omega)
               go_must (have Hp11 := Lib.hid (Hp10.out.reopen hk11 (OnX.put (on' := on) (b := false) (w := w) Hcn2.out hin hb11 (fun j hj => by by_cases e : j = i; subst e; rw [if_pos rfl]; exact decide_eq_false Hon.out; rw [if_neg e]; congr 1; simp; intro h; exact absurd (by omega) e))))
               go_must (have Hb511 := Lib.hid (hk11.blk Hb10.out (by have h1 := Hg5.out; have h2 := Hl.out; show ¬ g5 = nb; omega)))
               go_must (have Hk011 := Lib.hid (Hk010.out.into hk11 (.inr rfl)))
               have hg4w := hg4
               go_must (have Hb411 := Lib.hid (hk11.blk (hk10.blk (hk9.blk (hk8.blk (hk7.blk Hb4.out (by have h2 := Hl.out; show ¬ g4 = nb; omega)) (by have h2 := Hl.out; show ¬ (g4 = kb ∨ g4 = nb); omega)) id) (by have h1 := Hg5.out; show ¬ g4 = g5; omega)) (by have h2 := Hl.out; show ¬ g4 = nb; omega)))
               have f0 := (blk_cell Hb511.out 0).trans rfl
               have f1 := (blk_cell Hb511.out 1).trans rfl
               have f2 := (blk_cell Hb511.out 2).trans rfl
               clear hb11 p3
               (try simp only [Act.put, List.setIfInBounds_toArray, List.set_cons_zero, List.set_cons_succ]))
            | ((with_reducible refine at_store (t := 4) (p := 70) rfl ?_)
               go_must (refine ev_store (cs' := #[.bool true, .int .i64 an, .int .i64 ac, .int .i64 ae]) rfl rfl rfl rfl rfl rfl HI.out.2.1 HI.out.2.2 rfl Hb511.out (Nat.le_of_ble_eq_true rfl) rfl ?_; intro w12 hb12 hk12)
               have f0 := (blk_cell hb12 0).trans rfl
               have f1 := (blk_cell hb12 1).trans rfl
               have f2 := (blk_cell hb12 2).trans rfl
               have f3 := (blk_cell hb12 3).trans rfl
               have p2 := hk12.cell p2 (by have h1 := Hg5.out; have h3 := blk_lt Hpb.out; show ¬ pb = g5; omega)
               go_must (have Hk012 := Lib.hid (Hk011.out.own hk12 Hg5.out.1))
               go_must (have Hp12 := Lib.hid (Hp.out.mix Hk012.out Hp11.out hk12 (by have h1 := Hg5.out; have h2 := Hl.out; show ¬ kb = g5; omega) (by have h1 := Hg5.out; have h2 := Hl.out; show ¬ nb = g5; omega)))
               have Hb512 := Lib.hid hb12
               clear hb12
               (try simp only [Act.put, List.setIfInBounds_toArray, List.set_cons_zero, List.set_cons_succ]))
          )
          obtain ⟨ck3, hbk3, hck3⟩ := id Hp12.out.known
          have Hbk3 := Lib.hid hbk3
          have Hck3 := Lib.hid hck3
          have Hsz3 := Lib.hid (pget_size (hck3 i hin).2.2.2)
          clear hbk3 hck3
          refine wp_region_perm [(0, true), (1, true), (2, true), (3, true), (4, true), (5, true), (6, true), (7, false)] (fun w' => w'.cell? ⟨pb, 2, none⟩ = some (.slice (some ⟨kb, 0, none⟩) E.rules.length E.rules.length) ∧ w'.cell? ⟨g5, 0, none⟩ = some (.bool true) ∧ w'.cell? ⟨g5, 1, none⟩ = some (.int .i64 an) ∧ w'.cell? ⟨g5, 2, none⟩ = some (.int .i64 ac) ∧ w'.cell? ⟨g5, 3, none⟩ = some (.int .i64 ae)) rfl (by kernel_rfl) (by kernel_rfl) (by decide) (fun c a d v w h => by cases d <;> exact h) ⟨p2, f0, f1, f2, f3⟩ ?_
          refine perm_q (v := ?v1_0) (some 71) rfl rfl rfl ?q1_0 ?h1_0; (case q1_0 => (intro w' hS; obtain ⟨s1, s2, s3, s4, s5⟩ := hS; first | (go_simp; done) | (go_simp; rfl))); (try simp only [Act.put, List.setIfInBounds_toArray, List.set_cons_zero, List.set_cons_succ])
          refine perm_q (v := ?v1_1) (some 72) rfl rfl rfl ?q1_1 ?h1_1; (case q1_1 => (intro w' hS; obtain ⟨s1, s2, s3, s4, s5⟩ := hS; first | (go_simp; done) | (go_simp; rfl))); (try simp only [Act.put, List.setIfInBounds_toArray, List.set_cons_zero, List.set_cons_succ])
          refine perm_q (v := ?v1_2) (some 73) rfl rfl rfl ?q1_2 ?h1_2; (case q1_2 => (intro w' hS; obtain ⟨s1, s2, s3, s4, s5⟩ := hS; first | (go_simp; done) | (go_simp; rfl))); (try simp only [Act.put, List.setIfInBounds_toArray, List.set_cons_zero, List.set_cons_succ])
          refine perm_q (v := ?v1_3) (some 74) rfl rfl rfl ?q1_3 ?h1_3; (case q1_3 => (intro w' hS; obtain ⟨s1, s2, s3, s4, s5⟩ := hS; first | (go_simp; done) | (go_simp; rfl))); (try simp only [Act.put, List.setIfInBounds_toArray, List.set_cons_zero, List.set_cons_succ])
          refine perm_q (v := ?v1_4) (some 75) rfl rfl rfl ?q1_4 ?h1_4; (case q1_4 => (intro w' hS; obtain ⟨s1, s2, s3, s4, s5⟩ := hS; first | (go_simp; done) | (go_simp; rfl))); (try simp only [Act.put, List.setIfInBounds_toArray, List.set_cons_zero, List.set_cons_succ])
          refine perm_q (v := ?v1_5) (some 76) rfl rfl rfl ?q1_5 ?h1_5; (case q1_5 => (intro w' hS; obtain ⟨s1, s2, s3, s4, s5⟩ := hS; first | (go_simp; done) | (go_simp; rfl))); (try simp only [Act.put, List.setIfInBounds_toArray, List.set_cons_zero, List.set_cons_succ])
          refine perm_q (v := ?v1_6) (some 77) rfl rfl rfl ?q1_6 ?h1_6; (case q1_6 => (intro w' hS; obtain ⟨s1, s2, s3, s4, s5⟩ := hS; first | (go_simp; done) | (go_simp; rfl))); (try simp only [Act.put, List.setIfInBounds_toArray, List.set_cons_zero, List.set_cons_succ])
          refine perm_e rfl ?_   -- 7: store 80 t77 t76
          go_must (refine ev_store (x := .agg #[.bool true, .int .i64 an, .int .i64 ac, .int .i64 ae]) (vs := [.bool true, .int .i64 an, .int .i64 ac, .int .i64 ae]) (off := i * 4) (cs' := List.toArray (ck3.toList.take (i * 4) ++ [Value.bool true, .int .i64 an, .int .i64 ac, .int .i64 ae] ++ ck3.toList.drop (i * 4 + [Value.bool true, .int .i64 an, .int .i64 ac, .int .i64 ae].length))) rfl rfl rfl rfl rfl rfl HI.out.1.1 HI.out.1.2 rfl Hbk3.out (by have := Hsz3.out; exact this) rfl ?_; intro w13 hb13 hk13)
          have hg5k : ¬ g5 = kb := by have h1 := Hg5.out; have h2 := Hl.out; omega
          have f0 := hk13.cell (w := w12.drew) f0 hg5k
          have f1 := hk13.cell (w := w12.drew) f1 hg5k
          have f2 := hk13.cell (w := w12.drew) f2 hg5k
          have f3 := hk13.cell (w := w12.drew) f3 hg5k
          refine wpList_nil ⟨⟨hk13.cell (w := w12.drew) p2 HF.out.1.1.1, f0, f1, f2, f3⟩, ?_⟩
          refine perm_nil ?_
          have hk13' : Keeps (· = kb) w12 w13 := (Keeps.refl (· = kb) w12).drew.trans hk13 (fun _ _ h => h)
          have Hp13 := Lib.hid (Hp12.out.learn hk13' (KnownX.put (w := w) G1.out.1 (n := E.rules.length) (by exact Hck3.out) hin (x := an) (c := ac) rfl (by rw [Hae.out] at hb13; exact hb13)))
          have Hk013 := Lib.hid (Hk012.out.into hk13' (.inl rfl))
          have Hb413 := Lib.hid (hk13'.blk (hk12.blk Hb411.out (by have h1 := Hg5.out; show ¬ g4 = g5; omega)) (by have h2 := Hl.out; show ¬ g4 = kb; omega))
          clear hb13 hk13 p2
          go_wp2_with ((with_reducible refine at_store (t := 80) (p := 4) rfl ?_); go_must (refine ev_store (cs' := #[.bool true, .int .i64 an, .int .i64 ac, .int .i64 ae]) rfl rfl rfl rfl rfl rfl HI.out.1.1 HI.out.1.2 rfl Hb413.out (Nat.le_of_ble_eq_true rfl) rfl ?_; intro w14 hb5 hk14); (try simp only [Act.put, List.setIfInBounds_toArray, List.set_cons_zero, List.set_cons_succ]))
          have r0 := (blk_cell hb5 0).trans rfl
          have r1 := (blk_cell hb5 1).trans rfl
          have r2 := (blk_cell hb5 2).trans rfl
          have r3 := (blk_cell hb5 3).trans rfl
          refine bodyPost_ret (v := .agg #[.bool true, .int .i64 an, .int .i64 ac, .int .i64 ae]) (by rw [results_cell1 rfl]; go_simp) rfl ?_
          have hR := HR.out
          rw [if_pos Hae.out] at hR
          rw [← hR]
          have hkz := Hk013.out.own hk14 hg4w
          exact ⟨⟨true, rfl⟩, hkz, Hp.out.mix hkz Hp13.out hk14 (by have h2 := Hl.out; show ¬ kb = g4; omega) (by have h2 := Hl.out; show ¬ nb = g4; omega)⟩
        · have haeb : (ae == 0) = false := by simp [hae]
          have Hae := Lib.hid hae
          clear hae
          go_wp2_with (first
            | ((with_reducible refine at_dst (N := 4) rfl ?_); go_must (refine ev_alloc rfl rfl zero80 rfl ?_; intro g4 w4 hg4 hl4 hb4 hk4)
               have Hb4 := Lib.hid hb4
               clear hb4
               have p0 := hk4.cell p0 id
               have p1 := hk4.cell p1 id
               have p2 := hk4.cell p2 id
               have p3 := hk4.cell p3 id
               have e0 := hk4.cell e0 id
               have e1 := hk4.cell e1 id
               have e2 := hk4.cell e2 id
               have n0 := hk4.cell n0 id
               have k0 := hk4.cell k0 id
               (try have k1 := hk4.cell k1 id)
               (try have k2 := hk4.cell k2 id)
               (try have k3 := hk4.cell k3 id)
               (try have hv := hk4.cell hv id)
               (try simp only [Act.put, List.setIfInBounds_toArray, List.set_cons_zero, List.set_cons_succ]))
            | ((with_reducible refine at_store (t := 4) (p := 51) rfl ?_)
               go_must (refine ev_store (x := .bool true) (vs := [.bool true]) (cs' := List.toArray (cn.toList.take i ++ [Value.bool true] ++ cn.toList.drop (i + [Value.bool true].length))) rfl rfl rfl rfl rfl rfl HI.out.2.1 HI.out.2.2 rfl (hk4.blk Hnbk.out id) (by have := Hsz.out; exact this) rfl ?_; intro w7 hb7 hk7)
               have hk07 : Keeps (fun x => x = kb ∨ x = nb) w w7 := (hk4.mono (fun _ _ h => h.elim)).into hk7 (.inr rfl)
               go_must (have hp7 := (Hp.out.keep hk4).reopen hk7 (OnX.put (on' := ↑i :: on) (b := true) (w := w) Hnc.out hin hb7 (fun j hj => by by_cases e : j = i; subst e; simp; rw [if_neg e]; congr 1; simp; intro h; exact absurd (by omega) e)))
               go_must (have hu7 := (Hu.out.keep (X' := X) hk4 (fun _ _ _ => id) (fun _ _ h => h)).keep (X' := X) hk7 (fun b _ hx e => Hp.out.xn (e ▸ hx)) (fun _ _ h => h))
               have Hrun := Lib.hid (Hcall.out w7 hp7 hu7)
               have p0 := hk7.cell p0 HF.out.1.1.2
               have p2 := hk7.cell p2 HF.out.1.1.2
               have p3 := hk7.cell p3 HF.out.1.1.2
               have e0 := hk7.cell e0 HF.out.2.1
               have e1 := hk7.cell e1 HF.out.2.1
               have e2 := hk7.cell e2 HF.out.2.1
               have Hk07 := Lib.hid hk07
               clear hp7 hu7 hk07 hb7 n0
               (try simp only [Act.put, List.setIfInBounds_toArray, List.set_cons_zero, List.set_cons_succ]))
            | (go_at_call 55; go_must (refine Hrun.out.mono ?_; rintro e w8 ⟨⟨b8, rfl⟩, hk8, hp8⟩)
               have Hp8 := Lib.hid hp8
               have Hk08 := Lib.hid (Hk07.out.trans hk8 (fun _ _ h => h))
               have p2 := hk8.cell p2 (fun hm : pb = kb ∨ pb = nb => hm.elim HF.out.1.1.1 HF.out.1.1.2)
               have p3 := hk8.cell p3 (fun hm : pb = kb ∨ pb = nb => hm.elim HF.out.1.1.1 HF.out.1.1.2)
               clear hp8
               (try simp only [Act.put, List.setIfInBounds_toArray, List.set_cons_zero, List.set_cons_succ]))
            | ((with_reducible refine at_dst (N := 5) rfl ?_); go_must (refine ev_alloc rfl rfl zero80 rfl ?_; intro g5 w9 hg5 hl5 hb5 hk9)
               have Hb5 := Lib.hid hb5
               have p2 := hk9.cell p2 id
               have p3 := hk9.cell p3 id
               clear hb5
               (try simp only [Act.put, List.setIfInBounds_toArray, List.set_cons_zero, List.set_cons_succ]))
            | ((with_reducible refine at_store (t := 80) (p := 5) rfl ?_); go_must (refine ev_store (cs' := #[.bool b8, .int .i64 an, .int .i64 ac, .int .i64 ae]) rfl rfl rfl rfl rfl rfl HI.out.1.1 HI.out.1.2 rfl Hb5.out (Nat.le_of_ble_eq_true rfl) rfl ?_; intro w10 hb10 hk10)
               have p2 := hk10.cell p2 (by have h1 := World.block_lt_of_cell? _ _ p2; have h2 := Hk08.out.size; have h3 := blk_lt Hpb.out; show ¬ pb = g5; omega)
               have p3 := hk10.cell p3 (by have h1 := World.block_lt_of_cell? _ _ p3; have h2 := Hk08.out.size; have h3 := blk_lt Hpb.out; show ¬ pb = g5; omega)
               have Hg5 := Lib.hid (show w.heap.size ≤ g5 ∧ w4.heap.size ≤ g5 from ⟨by have h2 := Hk08.out.size; omega, by have h2 := hk7.size; have h3 := hk8.size; omega⟩)
               go_must (have Hk010 := Lib.hid ((Hk08.out.trans hk9 (fun _ _ h => h.elim)).own hk10 Hg5.out.1))
               go_must (have Hp10 := Lib.hid (Hp.out.mix Hk010.out Hp8.out ((hk9.mono (M' := (· = g5)) (fun _ _ h => h.elim)).trans hk10 (fun _ _ h => h)) (by have h1 := Hg5.out; have h2 := Hl.out; show ¬ kb = g5; omega) (by have h1 := Hg5.out; have h2 := Hl.out; show ¬ nb = g5; omega)))
               go_must (have hcn2 : ∃ cs : Array Value, w10.heap[nb]? = some (.cells cs 4 (0, 0)) ∧ Hid (∀ j : Nat, j < E.rules.length → cs[j]? = some (.bool (decide ((j : Int) ∈ (↑i :: on : List Int))))) := Hp10.out.open_; obtain ⟨cn2, hbn2, Hcn2⟩ := hcn2)
               have Hbn2 := Lib.hid hbn2
               have Hb10 := Lib.hid hb10
               have Hsz2 := Lib.hid (pget_size (Hcn2.out i hin))
               have f3 := (blk_cell hb10 3).trans rfl
               clear hbn2 hb10
               (try simp only [Act.put, List.setIfInBounds_toArray, List.set_cons_zero, List.set_cons_succ]))
            | ((with_reducible refine at_store (t := 4) (p := 66) rfl ?_)
               go_must (refine ev_store (x := .bool false) (vs := [.bool false]) (cs' := List.toArray (cn2.toList.take i ++ [Value.bool false] ++ cn2.toList.drop (i + [Value.bool false].length))) rfl rfl rfl rfl rfl rfl HI.out.2.1 HI.out.2.2 rfl Hbn2.out (by have := Hsz2.out; exact this) rfl ?_; intro w11 hb11 hk11)
               have p2 := hk11.cell p2 HF.out.1.1.2
               have f3 := hk11.cell f3 (by have h1 := Hg5.out; have h2 := Hl.out; show ¬ g5 = nb; omega)
               go_must (have Hp11 := Lib.hid (Hp10.out.reopen hk11 (OnX.put (on' := on) (b := false) (w := w) Hcn2.out hin hb11 (fun j hj => by by_cases e : j = i; subst e; rw [if_pos rfl]; exact decide_eq_false Hon.out; rw [if_neg e]; congr 1; simp; intro h; exact absurd (by omega) e))))
               go_must (have Hb511 := Lib.hid (hk11.blk Hb10.out (by have h1 := Hg5.out; have h2 := Hl.out; show ¬ g5 = nb; omega)))
               go_must (have Hk011 := Lib.hid (Hk010.out.into hk11 (.inr rfl)))
               have hg4w := hg4
               go_must (have Hb411 := Lib.hid (hk11.blk (hk10.blk (hk9.blk (hk8.blk (hk7.blk Hb4.out (by have h2 := Hl.out; show ¬ g4 = nb; omega)) (by have h2 := Hl.out; show ¬ (g4 = kb ∨ g4 = nb); omega)) id) (by have h1 := Hg5.out; show ¬ g4 = g5; omega)) (by have h2 := Hl.out; show ¬ g4 = nb; omega)))
               have f0 := (blk_cell Hb511.out 0).trans rfl
               have f1 := (blk_cell Hb511.out 1).trans rfl
               have f2 := (blk_cell Hb511.out 2).trans rfl
               clear hb11 p3
               (try simp only [Act.put, List.setIfInBounds_toArray, List.set_cons_zero, List.set_cons_succ]))
            | ((with_reducible refine at_store (t := 80) (p := 4) rfl ?_); go_must (refine ev_store (cs' := #[.bool b8, .int .i64 an, .int .i64 ac, .int .i64 ae]) rfl rfl rfl rfl rfl rfl HI.out.1.1 HI.out.1.2 rfl Hb411.out (Nat.le_of_ble_eq_true rfl) rfl ?_; intro w14 hb5 hk14); (try simp only [Act.put, List.setIfInBounds_toArray, List.set_cons_zero, List.set_cons_succ]))
          )
          have r0 := (blk_cell hb5 0).trans rfl
          have r1 := (blk_cell hb5 1).trans rfl
          have r2 := (blk_cell hb5 2).trans rfl
          have r3 := (blk_cell hb5 3).trans rfl
          refine bodyPost_ret (v := .agg #[.bool b8, .int .i64 an, .int .i64 ac, .int .i64 ae]) (by rw [results_cell1 rfl]; go_simp) rfl ?_
          have hR := HR.out
          rw [if_neg Hae.out] at hR
          rw [← hR]
          have hkz := Hk011.out.own hk14 hg4w
          exact ⟨⟨b8, rfl⟩, hkz, Hp.out.mix hkz Hp11.out hk14 (by have h2 := Hl.out; show ¬ kb = g4; omega) (by have h2 := Hl.out; show ¬ nb = g4; omega)⟩
/-- THE SPECIFICATION'S ASKING comes to the model's, however deep. -/
theorem plain_ask_all {E : Env} (hE : EnvOk E) : ∀ (f : Nat) (on : List Int), on.Nodup → (∀ q ∈ on, InQ E q) → E.rules.length + 1 ≤ f + on.length → RAskOK E on (rAsk E.rules E.inp f on)
  | 0, on, h1, h2, h => fun w X Y pb kb nb s q hp hkb hq => by
    have := nodup_length h1 h2
    omega
  | f + 1, on, h1, h2, h => fun w X Y pb kb nb s q hp hkb hq =>
    plain_ask hE f w X Y pb kb nb s q (fun hn => plain_ask_all hE f (q :: on) (List.nodup_cons.2 ⟨hn, h1⟩) (fun p hp => (List.mem_cons.1 hp).elim (fun e => e ▸ hq) (h2 p)) (by simp; omega)) hp hkb hq
end Go.Proofs.QW

/-
  A new engine (New), in memory. Condition: the table of kinds lies as it is laid.
-/
namespace Go.Proofs.QW
open Go.RowKit Go.Proofs.KL Go.Proofs.QM
set_option maxRecDepth 100000
set_option linter.unusedSimpArgs false
set_option linter.unusedVariables false

def fresh (rs : List QRule) (most : Int) : Env := ⟨rs, List.replicate rs.length 0, List.replicate rs.length 0, 0, most⟩
theorem info85b : (Tryd.prog.info? 85).map (fun i => (i.zero, i.size, i.bytes)) = some (some Z85, 4, 48) := by kernel_rfl
theorem made85 {n i : Nat} (hi : i < n) : (madeCells Z85.cells (n * 4))[i * 4]? = some (.int .i64 0) ∧ (madeCells Z85.cells (n * 4))[i * 4 + 1]? = some (.slice none 0 0) ∧ (madeCells Z85.cells (n * 4))[i * 4 + 2]? = some (.int .i64 0) ∧ (madeCells Z85.cells (n * 4))[i * 4 + 3]? = some (.int .i64 0) := by
  have h := fun j (hj : j < n * 4) => madeCells_get (z := Z85) (sz := 4) rfl (by decide) hj
  refine ⟨(h (i * 4) (by omega)).trans ?_, (h (i * 4 + 1) (by omega)).trans ?_, (h (i * 4 + 2) (by omega)).trans ?_, (h (i * 4 + 3) (by omega)).trans ?_⟩
  · simp only [show i * 4 % 4 = 0 by omega]; rfl
  · simp only [show (i * 4 + 1) % 4 = 1 by omega]; rfl
  · simp only [show (i * 4 + 2) % 4 = 2 by omega]; rfl
  · simp only [show (i * 4 + 3) % 4 = 3 by omega]; rfl
theorem getD_replicate {α : Type} (n i : Nat) (a : α) : (List.replicate n a).getD i a = a := by
  rw [List.getD_eq_getElem?_getD, List.getElem?_replicate]
  split <;> rfl
theorem fresh_eng {w : World} {Y : Nat → Prop} {eb gs gm : Nat} {rs : List QRule} {v : Value} (most : Int) (hb : w.heap[eb]? = some (.cells #[v, .slice (some ⟨gs, 0, none⟩) rs.length rs.length, .map (some gm), .int .i64 0] 63 (0, 0))) (hr : RulesX w Y v rs)
    (hs : w.heap[gs]? = some (.cells (madeCells Z85.cells (rs.length * 4)) 85 (0, 0))) (hm : w.heap[gm]? = some (.map #[] 0)) (y1 : ¬ Y eb) (y2 : ¬ Y gs) (y3 : ¬ Y gm) : EngAt w Y eb gs gm (fresh rs most) (List.replicate rs.length none) := by
  refine ⟨⟨v, rs.length, hb, hr⟩, ⟨_, hs, fun i hi => ?_⟩, ⟨#[], 0, hm, ⟨by simp, by simp⟩, fun q _ => mlook_nil q, fun q h0 h1 => ?_⟩, y1, y2, y3⟩
  · obtain ⟨h1, h2, h3, h4⟩ := made85 (n := rs.length) hi
    exact ⟨by rw [h1]; simp only [fresh]; rw [getD_replicate], h2, h3, by rw [h4]; simp only [fresh]; rw [getD_replicate]⟩
  · rw [getD_replicate]
    exact mlook_nil q
set_option maxHeartbeats 2000000 in
/-- NEW. -/
theorem New_any (rs : List QRule) (w : World) (X : Nat → Prop) (rv : Value) (hr : RulesX w X rv rs) (ht : rs.length ≤ 200 → Tab w) :
    Calls Tryd.prog 23 #[rv] w fun e w' => Keeps Nob w w' ∧ ((check rs).2 ≠ 0 → e = .returned (.tuple #[.pointer none, .int .i64 (check rs).2])) ∧
      ((check rs).2 = 0 → ∃ eb ib mb Y, e = .returned (.tuple #[.pointer (some ⟨eb, 0, none⟩), .int .i64 0]) ∧ (∀ most, EngAt w' Y eb ib mb (fresh rs most) (List.replicate rs.length none)) ∧ (∀ k, Y k → w.heap.size ≤ k ∧ k < w'.heap.size) ∧ w.heap.size ≤ eb ∧ w.heap.size ≤ ib ∧ w.heap.size ≤ mb) := by
  have hrun := Lib.hid (Check_any rs w X rv hr ht)
  have hck := Lib.hid (@check_ok rs)
  have HR := Lib.hid hr
  rcases hc : check rs with ⟨c1, c2⟩
  rw [hc] at hrun hck
  dsimp only at hck ⊢
  have hl : ∃ n c A, rv = .slice A n c ∧ n = rs.length := by obtain ⟨A, c, h, _⟩ := hr; exact ⟨_, c, A, h, rfl⟩
  obtain ⟨n, c, A, rfl, hn⟩ := hl
  have Hn := Lib.hid hn
  clear hr ht hc hn
  by_cases h0 : c2 = 0
  · subst h0
    obtain ⟨h200, hrok⟩ := hck.out rfl
    have Hasks : Hid (∀ r ∈ rs, r.asks.length ≤ 1000000) := Lib.hid (fun r hr => by have := (hrok r hr).l12; omega)
    have hn2 : n ≤ 200 := by have := Hn.out; omega
    clear hrok
    go_enter Tryd.func23, Tryd.ntmps23
    go_wp2_with (go_at_call 22; go_must (refine hrun.out.mono ?_; rintro e w1 ⟨rfl, hk1⟩))
    have hkc := (Keeps.refl Nob w1).drew
    have HR1 := Lib.hid (HR.out.keep (X' := X) hk1 (fun _ _ _ => id) (fun _ _ h => h))
    refine wp_region_tree (.q 0 (.q 2 (.q 3 (.br [1, 4, 5] (fun k => bif Nat.beq k 1 then .br [4, 5] (fun k => bif Nat.beq k 4 then .br [5] (fun k => .q 6 (.br [7] (fun k => .q 8 (.q 9 (.done))))) else .br [4] (fun k => .q 6 (.br [7] (fun k => .q 8 (.q 9 (.done)))))) else bif Nat.beq k 4 then .br [1, 5] (fun k => bif Nat.beq k 1 then .br [5] (fun k => .q 6 (.br [7] (fun k => .q 8 (.q 9 (.done))))) else .br [1] (fun k => .q 6 (.br [7] (fun k => .q 8 (.q 9 (.done)))))) else .br [1, 4] (fun k => bif Nat.beq k 1 then .br [4] (fun k => .q 6 (.br [7] (fun k => .q 8 (.q 9 (.done))))) else .br [1] (fun k => .q 6 (.br [7] (fun k => .q 8 (.q 9 (.done))))))))))) (fun w' => True) rfl (by kernel_rfl) (by kernel_rfl) (fun c a d v w h => by cases d <;> exact h) trivial ?_
    refine tree_q (v := ?v1_30) (some 14) rfl rfl rfl ?q1_30 ?h1_30; (case q1_30 => (intro w' hS; skip; first | (go_simp; done) | (go_simp; rfl))); (try simp only [Act.put, List.setIfInBounds_toArray, List.set_cons_zero, List.set_cons_succ])
    refine tree_q (v := ?v1_29) (some 16) rfl rfl rfl ?q1_29 ?h1_29; (case q1_29 => (intro w' hS; skip; first | (go_simp; done) | (go_simp; rfl))); (try simp only [Act.put, List.setIfInBounds_toArray, List.set_cons_zero, List.set_cons_succ])
    refine tree_q (v := ?v1_28) (some 17) rfl rfl rfl ?q1_28 ?h1_28; (case q1_28 => (intro w' hS; skip; first | (go_simp; done) | (go_simp; rfl))); (try simp only [Act.put, List.setIfInBounds_toArray, List.set_cons_zero, List.set_cons_succ])
    refine tree_b rfl rfl ?b1_9 ?nb1_9
    case' b1_9 =>   -- 1: call F44(t14)
      go_wp2_with (go_at_call 44; go_must (refine (own_any rs _ X _ (HR1.out.keep hkc (fun _ _ _ => id) (fun _ _ h => h)) h200 Hasks.out).mono ?_; rintro e w2 ⟨v', rfl, hk2, hr2⟩; obtain ⟨vA, vc, rfl, _, _⟩ := id hr2))
      refine ⟨trivial, ?_⟩
      have z2 := hk2.size
      have hkc := hkc.trans hk2 (fun _ _ h => h)
      have Hrow := Lib.hid hr2
      (try have Hbs := Lib.hid (hk2.blk Hbs.out id))
      (try have Hbm := Lib.hid (hk2.blk Hbm.out id))
      clear hk2 hr2
      refine tree_b rfl rfl ?b1_4 ?nb1_4
      case' b1_4 =>   -- 4: makeSlice 60 t17 t17
        go_must (refine ev_makeSlice rfl rfl n rfl rfl Tryd.underlying60 info85b rfl (by decide) (by omega) (by omega) ?_; intro gs ws hgs hls hbs hks)
        (try simp only [Act.put, List.setIfInBounds_toArray, List.set_cons_zero, List.set_cons_succ])
        refine wpList_nil ⟨trivial, ?_⟩
        have zs := hks.size
        have hkc := hkc.trans hks (fun _ _ h => h)
        have Hbs := Lib.hid hbs
        (try have Hrow := Lib.hid (Hrow.out.keep hks (fun _ _ _ => id) (fun _ _ h => h)))
        (try have Hbm := Lib.hid (hks.blk Hbm.out id))
        clear hks hbs
        refine tree_e rfl rfl ?_   -- 5: makeMap 61 none
        go_must (refine ev_makeMap rfl rfl ?_; intro gm wm hgm hlm hbm hkm)
        (try simp only [Act.put, List.setIfInBounds_toArray, List.set_cons_zero, List.set_cons_succ])
        refine wpList_nil ⟨trivial, ?_⟩
        have zm := hkm.size
        have hkc := hkc.trans hkm (fun _ _ h => h)
        have Hbm := Lib.hid hbm
        (try have Hrow := Lib.hid (Hrow.out.keep hkm (fun _ _ _ => id) (fun _ _ h => h)))
        (try have Hbs := Lib.hid (hkm.blk Hbs.out id))
        clear hkm hbm
        refine tree_q (v := ?v1_3) (some 20) rfl rfl rfl ?q1_3 ?h1_3; (case q1_3 => (intro w' hS; skip; first | (go_simp; done) | (go_simp; rfl))); (try simp only [Act.put, List.setIfInBounds_toArray, List.set_cons_zero, List.set_cons_succ])
        refine tree_e rfl rfl ?_   -- 7: box 63 t20
        go_must (refine ev_box (cs := #[.slice vA rs.length vc, .slice (some ⟨gs, 0, none⟩) n n, .map (some gm), .int .i64 0]) rfl rfl rfl ?_; intro eb we hge hle hbe hke)
        (try simp only [Act.put, List.setIfInBounds_toArray, List.set_cons_zero, List.set_cons_succ])
        refine wpList_nil ⟨trivial, ?_⟩
        have ze := hke.size
        have hkc := hkc.trans hke (fun _ _ h => h)
        have Hbe := Lib.hid hbe
        have Hrow := Lib.hid (Hrow.out.keep hke (fun _ _ _ => id) (fun _ _ h => h))
        have Hbs := Lib.hid (hke.blk Hbs.out id)
        have Hbm := Lib.hid (hke.blk Hbm.out id)
        clear hke hbe
        refine tree_q (v := ?v1_2) (some 2) rfl rfl rfl ?q1_2 ?h1_2; (case q1_2 => (intro w' hS; skip; first | (go_simp; done) | (go_simp; rfl))); (try simp only [Act.put, List.setIfInBounds_toArray, List.set_cons_zero, List.set_cons_succ])
        refine tree_q (v := ?v1_1) (some 3) rfl rfl rfl ?q1_1 ?h1_1; (case q1_1 => (intro w' hS; skip; first | (go_simp; done) | (go_simp; rfl))); (try simp only [Act.put, List.setIfInBounds_toArray, List.set_cons_zero, List.set_cons_succ])
        refine tree_nil ?_
      case' nb1_4 =>
        refine tree_e rfl rfl ?b1_8
        case' b1_8 =>   -- 5: makeMap 61 none
          go_must (refine ev_makeMap rfl rfl ?_; intro gm wm hgm hlm hbm hkm)
          (try simp only [Act.put, List.setIfInBounds_toArray, List.set_cons_zero, List.set_cons_succ])
          refine wpList_nil ⟨trivial, ?_⟩
          have zm := hkm.size
          have hkc := hkc.trans hkm (fun _ _ h => h)
          have Hbm := Lib.hid hbm
          (try have Hrow := Lib.hid (Hrow.out.keep hkm (fun _ _ _ => id) (fun _ _ h => h)))
          (try have Hbs := Lib.hid (hkm.blk Hbs.out id))
          clear hkm hbm
          refine tree_e rfl rfl ?_   -- 4: makeSlice 60 t17 t17
          go_must (refine ev_makeSlice rfl rfl n rfl rfl Tryd.underlying60 info85b rfl (by decide) (by omega) (by omega) ?_; intro gs ws hgs hls hbs hks)
          (try simp only [Act.put, List.setIfInBounds_toArray, List.set_cons_zero, List.set_cons_succ])
          refine wpList_nil ⟨trivial, ?_⟩
          have zs := hks.size
          have hkc := hkc.trans hks (fun _ _ h => h)
          have Hbs := Lib.hid hbs
          (try have Hrow := Lib.hid (Hrow.out.keep hks (fun _ _ _ => id) (fun _ _ h => h)))
          (try have Hbm := Lib.hid (hks.blk Hbm.out id))
          clear hks hbs
          refine tree_q (v := ?v1_7) (some 20) rfl rfl rfl ?q1_7 ?h1_7; (case q1_7 => (intro w' hS; skip; first | (go_simp; done) | (go_simp; rfl))); (try simp only [Act.put, List.setIfInBounds_toArray, List.set_cons_zero, List.set_cons_succ])
          refine tree_e rfl rfl ?_   -- 7: box 63 t20
          go_must (refine ev_box (cs := #[.slice vA rs.length vc, .slice (some ⟨gs, 0, none⟩) n n, .map (some gm), .int .i64 0]) rfl rfl rfl ?_; intro eb we hge hle hbe hke)
          (try simp only [Act.put, List.setIfInBounds_toArray, List.set_cons_zero, List.set_cons_succ])
          refine wpList_nil ⟨trivial, ?_⟩
          have ze := hke.size
          have hkc := hkc.trans hke (fun _ _ h => h)
          have Hbe := Lib.hid hbe
          have Hrow := Lib.hid (Hrow.out.keep hke (fun _ _ _ => id) (fun _ _ h => h))
          have Hbs := Lib.hid (hke.blk Hbs.out id)
          have Hbm := Lib.hid (hke.blk Hbm.out id)
          clear hke hbe
          refine tree_q (v := ?v1_6) (some 2) rfl rfl rfl ?q1_6 ?h1_6; (case q1_6 => (intro w' hS; skip; first | (go_simp; done) | (go_simp; rfl))); (try simp only [Act.put, List.setIfInBounds_toArray, List.set_cons_zero, List.set_cons_succ])
          refine tree_q (v := ?v1_5) (some 3) rfl rfl rfl ?q1_5 ?h1_5; (case q1_5 => (intro w' hS; skip; first | (go_simp; done) | (go_simp; rfl))); (try simp only [Act.put, List.setIfInBounds_toArray, List.set_cons_zero, List.set_cons_succ])
          refine tree_nil ?_
    case' nb1_9 =>
      refine tree_b rfl rfl ?b1_18 ?nb1_18
      case' b1_18 =>   -- 4: makeSlice 60 t17 t17
        go_must (refine ev_makeSlice rfl rfl n rfl rfl Tryd.underlying60 info85b rfl (by decide) (by omega) (by omega) ?_; intro gs ws hgs hls hbs hks)
        (try simp only [Act.put, List.setIfInBounds_toArray, List.set_cons_zero, List.set_cons_succ])
        refine wpList_nil ⟨trivial, ?_⟩
        have zs := hks.size
        have hkc := hkc.trans hks (fun _ _ h => h)
        have Hbs := Lib.hid hbs
        (try have Hrow := Lib.hid (Hrow.out.keep hks (fun _ _ _ => id) (fun _ _ h => h)))
        (try have Hbm := Lib.hid (hks.blk Hbm.out id))
        clear hks hbs
        refine tree_b rfl rfl ?b1_13 ?nb1_13
        case' b1_13 =>   -- 1: call F44(t14)
          go_wp2_with (go_at_call 44; go_must (refine (own_any rs _ X _ (HR1.out.keep hkc (fun _ _ _ => id) (fun _ _ h => h)) h200 Hasks.out).mono ?_; rintro e w2 ⟨v', rfl, hk2, hr2⟩; obtain ⟨vA, vc, rfl, _, _⟩ := id hr2))
          refine ⟨trivial, ?_⟩
          have z2 := hk2.size
          have hkc := hkc.trans hk2 (fun _ _ h => h)
          have Hrow := Lib.hid hr2
          (try have Hbs := Lib.hid (hk2.blk Hbs.out id))
          (try have Hbm := Lib.hid (hk2.blk Hbm.out id))
          clear hk2 hr2
          refine tree_e rfl rfl ?_   -- 5: makeMap 61 none
          go_must (refine ev_makeMap rfl rfl ?_; intro gm wm hgm hlm hbm hkm)
          (try simp only [Act.put, List.setIfInBounds_toArray, List.set_cons_zero, List.set_cons_succ])
          refine wpList_nil ⟨trivial, ?_⟩
          have zm := hkm.size
          have hkc := hkc.trans hkm (fun _ _ h => h)
          have Hbm := Lib.hid hbm
          (try have Hrow := Lib.hid (Hrow.out.keep hkm (fun _ _ _ => id) (fun _ _ h => h)))
          (try have Hbs := Lib.hid (hkm.blk Hbs.out id))
          clear hkm hbm
          refine tree_q (v := ?v1_12) (some 20) rfl rfl rfl ?q1_12 ?h1_12; (case q1_12 => (intro w' hS; skip; first | (go_simp; done) | (go_simp; rfl))); (try simp only [Act.put, List.setIfInBounds_toArray, List.set_cons_zero, List.set_cons_succ])
          refine tree_e rfl rfl ?_   -- 7: box 63 t20
          go_must (refine ev_box (cs := #[.slice vA rs.length vc, .slice (some ⟨gs, 0, none⟩) n n, .map (some gm), .int .i64 0]) rfl rfl rfl ?_; intro eb we hge hle hbe hke)
          (try simp only [Act.put, List.setIfInBounds_toArray, List.set_cons_zero, List.set_cons_succ])
          refine wpList_nil ⟨trivial, ?_⟩
          have ze := hke.size
          have hkc := hkc.trans hke (fun _ _ h => h)
          have Hbe := Lib.hid hbe
          have Hrow := Lib.hid (Hrow.out.keep hke (fun _ _ _ => id) (fun _ _ h => h))
          have Hbs := Lib.hid (hke.blk Hbs.out id)
          have Hbm := Lib.hid (hke.blk Hbm.out id)
          clear hke hbe
          refine tree_q (v := ?v1_11) (some 2) rfl rfl rfl ?q1_11 ?h1_11; (case q1_11 => (intro w' hS; skip; first | (go_simp; done) | (go_simp; rfl))); (try simp only [Act.put, List.setIfInBounds_toArray, List.set_cons_zero, List.set_cons_succ])
          refine tree_q (v := ?v1_10) (some 3) rfl rfl rfl ?q1_10 ?h1_10; (case q1_10 => (intro w' hS; skip; first | (go_simp; done) | (go_simp; rfl))); (try simp only [Act.put, List.setIfInBounds_toArray, List.set_cons_zero, List.set_cons_succ])
          refine tree_nil ?_
        case' nb1_13 =>
          refine tree_e rfl rfl ?b1_17
          case' b1_17 =>   -- 5: makeMap 61 none
            go_must (refine ev_makeMap rfl rfl ?_; intro gm wm hgm hlm hbm hkm)
            (try simp only [Act.put, List.setIfInBounds_toArray, List.set_cons_zero, List.set_cons_succ])
            refine wpList_nil ⟨trivial, ?_⟩
            have zm := hkm.size
            have hkc := hkc.trans hkm (fun _ _ h => h)
            have Hbm := Lib.hid hbm
            (try have Hrow := Lib.hid (Hrow.out.keep hkm (fun _ _ _ => id) (fun _ _ h => h)))
            (try have Hbs := Lib.hid (hkm.blk Hbs.out id))
            clear hkm hbm
            refine tree_e rfl rfl ?_   -- 1: call F44(t14)
            go_wp2_with (go_at_call 44; go_must (refine (own_any rs _ X _ (HR1.out.keep hkc (fun _ _ _ => id) (fun _ _ h => h)) h200 Hasks.out).mono ?_; rintro e w2 ⟨v', rfl, hk2, hr2⟩; obtain ⟨vA, vc, rfl, _, _⟩ := id hr2))
            refine ⟨trivial, ?_⟩
            have z2 := hk2.size
            have hkc := hkc.trans hk2 (fun _ _ h => h)
            have Hrow := Lib.hid hr2
            (try have Hbs := Lib.hid (hk2.blk Hbs.out id))
            (try have Hbm := Lib.hid (hk2.blk Hbm.out id))
            clear hk2 hr2
            refine tree_q (v := ?v1_16) (some 20) rfl rfl rfl ?q1_16 ?h1_16; (case q1_16 => (intro w' hS; skip; first | (go_simp; done) | (go_simp; rfl))); (try simp only [Act.put, List.setIfInBounds_toArray, List.set_cons_zero, List.set_cons_succ])
            refine tree_e rfl rfl ?_   -- 7: box 63 t20
            go_must (refine ev_box (cs := #[.slice vA rs.length vc, .slice (some ⟨gs, 0, none⟩) n n, .map (some gm), .int .i64 0]) rfl rfl rfl ?_; intro eb we hge hle hbe hke)
            (try simp only [Act.put, List.setIfInBounds_toArray, List.set_cons_zero, List.set_cons_succ])
            refine wpList_nil ⟨trivial, ?_⟩
            have ze := hke.size
            have hkc := hkc.trans hke (fun _ _ h => h)
            have Hbe := Lib.hid hbe
            have Hrow := Lib.hid (Hrow.out.keep hke (fun _ _ _ => id) (fun _ _ h => h))
            have Hbs := Lib.hid (hke.blk Hbs.out id)
            have Hbm := Lib.hid (hke.blk Hbm.out id)
            clear hke hbe
            refine tree_q (v := ?v1_15) (some 2) rfl rfl rfl ?q1_15 ?h1_15; (case q1_15 => (intro w' hS; skip; first | (go_simp; done) | (go_simp; rfl))); (try simp only [Act.put, List.setIfInBounds_toArray, List.set_cons_zero, List.set_cons_succ])
            refine tree_q (v := ?v1_14) (some 3) rfl rfl rfl ?q1_14 ?h1_14; (case q1_14 => (intro w' hS; skip; first | (go_simp; done) | (go_simp; rfl))); (try simp only [Act.put, List.setIfInBounds_toArray, List.set_cons_zero, List.set_cons_succ])
            refine tree_nil ?_
      case' nb1_18 =>
        refine tree_e rfl rfl ?b1_27
        case' b1_27 =>   -- 5: makeMap 61 none
          go_must (refine ev_makeMap rfl rfl ?_; intro gm wm hgm hlm hbm hkm)
          (try simp only [Act.put, List.setIfInBounds_toArray, List.set_cons_zero, List.set_cons_succ])
          refine wpList_nil ⟨trivial, ?_⟩
          have zm := hkm.size
          have hkc := hkc.trans hkm (fun _ _ h => h)
          have Hbm := Lib.hid hbm
          (try have Hrow := Lib.hid (Hrow.out.keep hkm (fun _ _ _ => id) (fun _ _ h => h)))
          (try have Hbs := Lib.hid (hkm.blk Hbs.out id))
          clear hkm hbm
          refine tree_b rfl rfl ?b1_22 ?nb1_22
          case' b1_22 =>   -- 1: call F44(t14)
            go_wp2_with (go_at_call 44; go_must (refine (own_any rs _ X _ (HR1.out.keep hkc (fun _ _ _ => id) (fun _ _ h => h)) h200 Hasks.out).mono ?_; rintro e w2 ⟨v', rfl, hk2, hr2⟩; obtain ⟨vA, vc, rfl, _, _⟩ := id hr2))
            refine ⟨trivial, ?_⟩
            have z2 := hk2.size
            have hkc := hkc.trans hk2 (fun _ _ h => h)
            have Hrow := Lib.hid hr2
            (try have Hbs := Lib.hid (hk2.blk Hbs.out id))
            (try have Hbm := Lib.hid (hk2.blk Hbm.out id))
            clear hk2 hr2
            refine tree_e rfl rfl ?_   -- 4: makeSlice 60 t17 t17
            go_must (refine ev_makeSlice rfl rfl n rfl rfl Tryd.underlying60 info85b rfl (by decide) (by omega) (by omega) ?_; intro gs ws hgs hls hbs hks)
            (try simp only [Act.put, List.setIfInBounds_toArray, List.set_cons_zero, List.set_cons_succ])
            refine wpList_nil ⟨trivial, ?_⟩
            have zs := hks.size
            have hkc := hkc.trans hks (fun _ _ h => h)
            have Hbs := Lib.hid hbs
            (try have Hrow := Lib.hid (Hrow.out.keep hks (fun _ _ _ => id) (fun _ _ h => h)))
            (try have Hbm := Lib.hid (hks.blk Hbm.out id))
            clear hks hbs
            refine tree_q (v := ?v1_21) (some 20) rfl rfl rfl ?q1_21 ?h1_21; (case q1_21 => (intro w' hS; skip; first | (go_simp; done) | (go_simp; rfl))); (try simp only [Act.put, List.setIfInBounds_toArray, List.set_cons_zero, List.set_cons_succ])
            refine tree_e rfl rfl ?_   -- 7: box 63 t20
            go_must (refine ev_box (cs := #[.slice vA rs.length vc, .slice (some ⟨gs, 0, none⟩) n n, .map (some gm), .int .i64 0]) rfl rfl rfl ?_; intro eb we hge hle hbe hke)
            (try simp only [Act.put, List.setIfInBounds_toArray, List.set_cons_zero, List.set_cons_succ])
            refine wpList_nil ⟨trivial, ?_⟩
            have ze := hke.size
            have hkc := hkc.trans hke (fun _ _ h => h)
            have Hbe := Lib.hid hbe
            have Hrow := Lib.hid (Hrow.out.keep hke (fun _ _ _ => id) (fun _ _ h => h))
            have Hbs := Lib.hid (hke.blk Hbs.out id)
            have Hbm := Lib.hid (hke.blk Hbm.out id)
            clear hke hbe
            refine tree_q (v := ?v1_20) (some 2) rfl rfl rfl ?q1_20 ?h1_20; (case q1_20 => (intro w' hS; skip; first | (go_simp; done) | (go_simp; rfl))); (try simp only [Act.put, List.setIfInBounds_toArray, List.set_cons_zero, List.set_cons_succ])
            refine tree_q (v := ?v1_19) (some 3) rfl rfl rfl ?q1_19 ?h1_19; (case q1_19 => (intro w' hS; skip; first | (go_simp; done) | (go_simp; rfl))); (try simp only [Act.put, List.setIfInBounds_toArray, List.set_cons_zero, List.set_cons_succ])
            refine tree_nil ?_
          case' nb1_22 =>
            refine tree_e rfl rfl ?b1_26
            case' b1_26 =>   -- 4: makeSlice 60 t17 t17
              go_must (refine ev_makeSlice rfl rfl n rfl rfl Tryd.underlying60 info85b rfl (by decide) (by omega) (by omega) ?_; intro gs ws hgs hls hbs hks)
              (try simp only [Act.put, List.setIfInBounds_toArray, List.set_cons_zero, List.set_cons_succ])
              refine wpList_nil ⟨trivial, ?_⟩
              have zs := hks.size
              have hkc := hkc.trans hks (fun _ _ h => h)
              have Hbs := Lib.hid hbs
              (try have Hrow := Lib.hid (Hrow.out.keep hks (fun _ _ _ => id) (fun _ _ h => h)))
              (try have Hbm := Lib.hid (hks.blk Hbm.out id))
              clear hks hbs
              refine tree_e rfl rfl ?_   -- 1: call F44(t14)
              go_wp2_with (go_at_call 44; go_must (refine (own_any rs _ X _ (HR1.out.keep hkc (fun _ _ _ => id) (fun _ _ h => h)) h200 Hasks.out).mono ?_; rintro e w2 ⟨v', rfl, hk2, hr2⟩; obtain ⟨vA, vc, rfl, _, _⟩ := id hr2))
              refine ⟨trivial, ?_⟩
              have z2 := hk2.size
              have hkc := hkc.trans hk2 (fun _ _ h => h)
              have Hrow := Lib.hid hr2
              (try have Hbs := Lib.hid (hk2.blk Hbs.out id))
              (try have Hbm := Lib.hid (hk2.blk Hbm.out id))
              clear hk2 hr2
              refine tree_q (v := ?v1_25) (some 20) rfl rfl rfl ?q1_25 ?h1_25; (case q1_25 => (intro w' hS; skip; first | (go_simp; done) | (go_simp; rfl))); (try simp only [Act.put, List.setIfInBounds_toArray, List.set_cons_zero, List.set_cons_succ])
              refine tree_e rfl rfl ?_   -- 7: box 63 t20
              go_must (refine ev_box (cs := #[.slice vA rs.length vc, .slice (some ⟨gs, 0, none⟩) n n, .map (some gm), .int .i64 0]) rfl rfl rfl ?_; intro eb we hge hle hbe hke)
              (try simp only [Act.put, List.setIfInBounds_toArray, List.set_cons_zero, List.set_cons_succ])
              refine wpList_nil ⟨trivial, ?_⟩
              have ze := hke.size
              have hkc := hkc.trans hke (fun _ _ h => h)
              have Hbe := Lib.hid hbe
              have Hrow := Lib.hid (Hrow.out.keep hke (fun _ _ _ => id) (fun _ _ h => h))
              have Hbs := Lib.hid (hke.blk Hbs.out id)
              have Hbm := Lib.hid (hke.blk Hbm.out id)
              clear hke hbe
              refine tree_q (v := ?v1_24) (some 2) rfl rfl rfl ?q1_24 ?h1_24; (case q1_24 => (intro w' hS; skip; first | (go_simp; done) | (go_simp; rfl))); (try simp only [Act.put, List.setIfInBounds_toArray, List.set_cons_zero, List.set_cons_succ])
              refine tree_q (v := ?v1_23) (some 3) rfl rfl rfl ?q1_23 ?h1_23; (case q1_23 => (intro w' hS; skip; first | (go_simp; done) | (go_simp; rfl))); (try simp only [Act.put, List.setIfInBounds_toArray, List.set_cons_zero, List.set_cons_succ])
              refine tree_nil ?_
    all_goals
      have z0 := hkc.size
      have z1 := hk1.size
      go_wp2
      go_ret2
      have hne := Hn.out
      subst hne
      have zd : w1.drew.heap.size = w1.heap.size := rfl
      have lrow := Hrow.out
      refine ⟨hk1.trans hkc (fun _ _ h => h), fun h => absurd rfl h, fun _ => ⟨eb, gs, gm, _, rfl, fun most => fresh_eng most Hbe.out Hrow.out Hbs.out Hbm.out (fun h => ?_) (fun h => ?_) (fun h => ?_), fun k h => ?_, ?_, ?_, ?_⟩⟩
      all_goals first | omega | (obtain ⟨h1, h2⟩ := h; omega) | (obtain ⟨h1, h2⟩ := h; constructor <;> omega)
  · go_enter Tryd.func23, Tryd.ntmps23
    go_wp2_with (go_at_call 22; go_must (refine hrun.out.mono ?_; rintro e w1 ⟨rfl, hk1⟩))
    go_ret2
    exact ⟨hk1, fun _ => rfl, fun h => absurd h h0⟩
end Go.Proofs.QW

/-
  Setting an input (Set) and the revision (Revision), in memory. No condition.
-/
namespace Go.Proofs.QW
open Go.RowKit Go.Proofs.KL Go.Proofs.QM
set_option maxRecDepth 100000
set_option linter.unusedSimpArgs false
set_option linter.unusedVariables false

def splice (cs : Array Value) (off : Nat) (v : Value) : Array Value := (cs.toList.take off ++ [v] ++ cs.toList.drop (off + 1)).toArray
theorem splice_get {cs : Array Value} {off : Nat} {v : Value} (h : off < cs.size) (j : Nat) : (splice cs off v)[j]? = if j = off then some v else cs[j]? := by
  unfold splice
  have e : cs.toList.take off ++ [v] ++ cs.toList.drop (off + 1) = cs.toList.set off v := by
    rw [List.set_eq_take_append_cons_drop, if_pos (by simpa using h), List.append_assoc]; rfl
  rw [e, List.getElem?_toArray, List.getElem?_set]
  by_cases hj : j = off
  · subst hj; rw [if_pos rfl, if_pos rfl, if_pos (by simpa using h)]
  · rw [if_neg (fun h => hj h.symm), if_neg hj]; simp
theorem splice_size {cs : Array Value} {off : Nat} {v : Value} (h : off < cs.size) : (splice cs off v).size = cs.size := by
  unfold splice
  have : off < cs.toList.length := by simpa using h
  simp; omega
/-- The cells of inputs. -/
def InpC (cs : Array Value) (n : Nat) (inp ch : List Int) : Prop := ∀ i, i < n → cs[i * 4]? = some (.int .i64 (inp.getD i 0)) ∧ cs[i * 4 + 1]? = some (.slice none 0 0) ∧ cs[i * 4 + 2]? = some (.int .i64 0) ∧ cs[i * 4 + 3]? = some (.int .i64 (ch.getD i 0))
theorem InpC.lt {cs : Array Value} {n : Nat} {inp ch : List Int} (h : InpC cs n inp ch) {q : Nat} (hq : q < n) : q * 4 + 3 < cs.size := (Array.getElem?_eq_some_iff.1 (h q hq).2.2.2).1
theorem getD_set {l : List Int} {q i : Nat} {v : Int} (h : q < l.length) : (l.set q v).getD i 0 = if i = q then v else l.getD i 0 := by
  rw [List.getD_eq_getElem?_getD, List.getElem?_set]
  by_cases e : i = q
  · subst e; rw [if_pos rfl, if_pos h, if_pos rfl]; rfl
  · rw [if_neg (fun h => e h.symm), if_neg e, List.getD_eq_getElem?_getD]
theorem InpC.value {cs : Array Value} {n : Nat} {inp ch : List Int} (h : InpC cs n inp ch) {q : Nat} (hq : q < n) (hl : inp.length = n) (v : Int) : InpC (splice cs (q * 4) (.int .i64 v)) n (inp.set q v) ch := by
  intro i hi
  have hlt := h.lt hq
  obtain ⟨h0, h1, h2, h3⟩ := h i hi
  have e := fun j => splice_get (cs := cs) (off := q * 4) (v := .int .i64 v) (by omega) j
  refine ⟨?_, ?_, ?_, ?_⟩
  · rw [e, getD_set (by omega)]
    by_cases hiq : i = q
    · rw [if_pos (by omega), if_pos hiq]
    · rw [if_neg (by omega), if_neg hiq, h0]
  · rw [e, if_neg (by omega), h1]
  · rw [e, if_neg (by omega), h2]
  · rw [e, if_neg (by omega), h3]
theorem InpC.change {cs : Array Value} {n : Nat} {inp ch : List Int} (h : InpC cs n inp ch) {q : Nat} (hq : q < n) (hl : ch.length = n) (v : Int) : InpC (splice cs (q * 4 + 3) (.int .i64 v)) n inp (ch.set q v) := by
  intro i hi
  have hlt := h.lt hq
  obtain ⟨h0, h1, h2, h3⟩ := h i hi
  have e := fun j => splice_get (cs := cs) (off := q * 4 + 3) (v := .int .i64 v) (by omega) j
  refine ⟨?_, ?_, ?_, ?_⟩
  · rw [e, if_neg (by omega), h0]
  · rw [e, if_neg (by omega), h1]
  · rw [e, if_neg (by omega), h2]
  · rw [e, getD_set (by omega)]
    by_cases hiq : i = q
    · rw [if_pos (by omega), if_pos hiq]
    · rw [if_neg (by omega), if_neg hiq, h3]
def setF (E : Env) (q v : Int) : Env × Int :=
  if isErr E.rules.length q ≠ 0 then (E, 5)
  else if (E.rule q).kind ≠ 1 ∨ v < 0 ∨ 1048576 < v then (E, 2)
  else if E.inp.getD q.toNat 0 ≠ v then ({ E with inp := E.inp.set q.toNat v, inpCh := E.inpCh.set q.toNat (E.rev + 1), rev := E.rev + 1 }, 0)
  else (E, 0)
theorem Revision_any {w : World} {X : Nat → Prop} {eb ib mb : Nat} {E : Env} {ans : List (Option KeptR)} (h : EngAt w X eb ib mb E ans) :
    Calls Tryd.prog 31 #[.pointer (some ⟨eb, 0, none⟩)] w fun e w' => e = .returned (.int .i64 E.rev) ∧ w = w' := by
  obtain ⟨A, cc, cc', b0, b1, b2, b3, hrx⟩ := h.cells
  have hok := ok_some eb mb w b2
  clear hrx h
  go_enter Tryd.func31, Tryd.ntmps31
  go_wp2_with (go_at_call 51; refine hok.mono ?_; rintro e w' ⟨rfl, rfl⟩)
  go_ret
  exact ⟨rfl, rfl⟩
set_option maxHeartbeats 2000000 in
/-- SET. -/
theorem Set_any {E : Env} (hE : EnvOk E) (w : World) (X : Nat → Prop) (eb ib mb : Nat) (ans : List (Option KeptR)) (q v : Int) (he : EngAt w X eb ib mb E ans) :
    Calls Tryd.prog 29 #[.pointer (some ⟨eb, 0, none⟩), .int .i64 q, .int .i64 v] w fun e w' => e = .returned (.int .i64 (setF E q v).2) ∧ Keeps (fun k => k = eb ∨ k = ib) w w' ∧ EngAt w' X eb ib mb (setF E q v).1 ans := by
  obtain ⟨A, cc, cc', b0, b1, b2, b3, hrx⟩ := he.cells
  have h200 := hE.len
  have his := Lib.hid (is_some eb mb q A E.rules.length cc w b2 b0 h200)
  have Hrx := Lib.hid hrx
  have He := Lib.hid he
  have HE := Lib.hid hE
  clear hrx he hE
  obtain ⟨R, hR⟩ : ∃ r, setF E q v = r := ⟨_, rfl⟩
  rw [hR]
  unfold setF at hR
  by_cases hq : q < 0 ∨ (E.rules.length : Int) ≤ q
  · have hE0 : isErr E.rules.length q = 5 := if_pos hq
    rw [hE0] at hR his
    rw [if_pos (by decide)] at hR
    have HR := Lib.hid hR
    clear hR hE0
    go_enter Tryd.func29, Tryd.ntmps29
    go_wp2_with (go_at_call 38; go_must (refine his.out.mono ?_; rintro e w' ⟨rfl, rfl⟩))
    go_ret
    exact ⟨by rw [← HR.out]; rfl, Keeps.refl _ _, by rw [← HR.out]; exact He.out⟩
  have hE0 : isErr E.rules.length q = 0 := if_neg hq
  rw [hE0] at hR his
  rw [if_neg (by decide)] at hR
  obtain ⟨i, rfl⟩ := Int.eq_ofNat_of_zero_le (show 0 ≤ q by omega)
  have hin : i < E.rules.length := by omega
  have hinp := Lib.hid (input_any eb i E.rules X _ w b0 Hrx.out (by omega) (by omega) h200)
  have hki : (E.rules.getD (i : Int).toNat default).kind = (E.rule i).kind := by simp [Env.rule]
  rw [hki] at hinp
  obtain ⟨kd, hkd⟩ : ∃ x, (E.rule i).kind = x := ⟨_, rfl⟩
  rw [hkd] at hinp hR
  clear hE0 hki hkd
  by_cases hbad : kd ≠ 1 ∨ v < 0 ∨ 1048576 < v
  · rw [if_pos hbad] at hR
    have HR := Lib.hid hR
    clear hR
    by_cases h1 : kd = 1
    · have hkb : (kd == 1) = true := by simp [h1]
      rw [hkb] at hinp
      by_cases h2 : v < 0
      · clear hbad h1 hkb
        go_enter Tryd.func29, Tryd.ntmps29
        go_wp2_with (first | (go_at_call 38; go_must (refine his.out.mono ?_; rintro e w' ⟨rfl, rfl⟩)) | (go_at_call 37; go_must (refine hinp.out.mono ?_; rintro e w' ⟨rfl, rfl⟩)))
        go_ret
        exact ⟨by rw [← HR.out]; rfl, Keeps.refl _ _, by rw [← HR.out]; exact He.out⟩
      · have h3 : 1048576 < v := by omega
        clear hbad h1 hkb
        go_enter Tryd.func29, Tryd.ntmps29
        go_wp2_with (first | (go_at_call 38; go_must (refine his.out.mono ?_; rintro e w' ⟨rfl, rfl⟩)) | (go_at_call 37; go_must (refine hinp.out.mono ?_; rintro e w' ⟨rfl, rfl⟩)))
        go_ret
        exact ⟨by rw [← HR.out]; rfl, Keeps.refl _ _, by rw [← HR.out]; exact He.out⟩
    · have hkb : (kd == 1) = false := by simpa using h1
      rw [hkb] at hinp
      clear hbad h1 hkb
      go_enter Tryd.func29, Tryd.ntmps29
      go_wp2_with (first | (go_at_call 38; go_must (refine his.out.mono ?_; rintro e w' ⟨rfl, rfl⟩)) | (go_at_call 37; go_must (refine hinp.out.mono ?_; rintro e w' ⟨rfl, rfl⟩)))
      go_ret
      exact ⟨by rw [← HR.out]; rfl, Keeps.refl _ _, by rw [← HR.out]; exact He.out⟩
  rw [if_neg hbad] at hR
  have hkb : (kd == 1) = true := by have : kd = 1 := by omega
                                    simp [this]
  rw [hkb] at hinp
  have v0 : ¬ v < 0 := by omega
  have v1 : ¬ 1048576 < v := by omega
  clear hbad hkb
  obtain ⟨cs, hib, hci⟩ := id He.out.inp
  obtain ⟨x0, x1, x2, x3⟩ := hci i hin
  have d0 := (blk_cell hib (i * 4)).trans x0
  have Hib := Lib.hid hib
  have Hci : Hid (InpC cs E.rules.length E.inp E.inpCh) := Lib.hid hci
  clear hib hci x0 x1 x2 x3
  simp only [Int.toNat_natCast] at hR d0
  obtain ⟨iv, hiv⟩ : ∃ x, E.inp.getD i 0 = x := ⟨_, rfl⟩
  rw [hiv] at hR d0
  by_cases hsame : iv = v
  · rw [if_neg (by simp [hsame])] at hR
    have HR := Lib.hid hR
    have hnb : (iv != v) = false := by simp [hsame]
    clear hR hsame hiv
    go_enter Tryd.func29, Tryd.ntmps29
    go_wp2_with (first | (go_at_call 38; go_must (refine his.out.mono ?_; rintro e w' ⟨rfl, rfl⟩)) | (go_at_call 37; go_must (refine hinp.out.mono ?_; rintro e w' ⟨rfl, rfl⟩)))
    go_ret
    exact ⟨by rw [← HR.out]; rfl, Keeps.refl _ _, by rw [← HR.out]; exact He.out⟩
  · rw [if_pos hsame] at hR
    have HR := Lib.hid hR
    have hnb : (iv != v) = true := by simpa using hsame
    obtain ⟨rv, cc2, hb, hrx2⟩ := id He.out.blk
    obtain ⟨rA, rc, rfl, _, _⟩ := id hrx2
    obtain ⟨i3, hi3, hs3⟩ := infoS3
    have hrev := Lib.hid (And.intro HE.out.rev0 HE.out.rev1)
    have hwrap : IntKind.i64.wrap (E.rev + 1) = E.rev + 1 := IntWalk.i64_in _ (by have := hrev.out; omega)
    have HI := Lib.hid (And.intro hi3 hs3)
    have Hb := Lib.hid hb
    have Hrx2 := Lib.hid hrx2
    have nei : eb ≠ ib := fun e => by
      subst e
      have := hb.symm.trans Hib.out
      injection this with this
      injection this with _ h2 _
      exact absurd h2 (by decide)
    have lsz := Hci.out.lt hin
    clear hR hsame hiv hi3 hs3 hb hrx2
    go_enter Tryd.func29, Tryd.ntmps29
    go_wp2_with (first
      | (go_at_call 38; go_must (refine his.out.mono ?_; rintro e w' ⟨rfl, rfl⟩))
      | (go_at_call 37; go_must (refine hinp.out.mono ?_; rintro e w' ⟨rfl, rfl⟩))
      | ((with_reducible refine at_store (t := 3) (p := 47) rfl ?_); go_must (refine ev_store (cs' := #[.slice rA E.rules.length rc, .slice (some ⟨ib, 0, none⟩) E.rules.length cc2, .map (some mb), .int .i64 (E.rev + 1)]) rfl rfl rfl rfl rfl rfl HI.out.1 HI.out.2 rfl Hb.out (Nat.le_of_ble_eq_true rfl) rfl ?_; intro w1 hb1 hk1); have r1 := (blk_cell hb1 3).trans rfl; have Hb1 := Lib.hid hb1; have Hib1 := Lib.hid (hk1.blk Hib.out (fun e => nei e.symm)); clear hb1; (try simp only [Act.put, List.setIfInBounds_toArray, List.set_cons_zero, List.set_cons_succ]))
      | ((with_reducible refine at_store (t := 3) (p := 56) rfl ?_); go_must (refine ev_store (cs' := splice cs (i * 4) (.int .i64 v)) (vs := [.int .i64 v]) rfl rfl rfl rfl rfl rfl HI.out.1 HI.out.2 rfl Hib1.out (by show i * 4 + 1 ≤ _; omega) rfl ?_; intro w2 hb2 hk2); have Hib2 := Lib.hid hb2; clear hb2; (try simp only [Act.put, List.setIfInBounds_toArray, List.set_cons_zero, List.set_cons_succ]))
      | ((with_reducible refine at_store (t := 3) (p := 58) rfl ?_); go_must (refine ev_store (cs' := splice (splice cs (i * 4) (.int .i64 v)) (i * 4 + 3) (.int .i64 (E.rev + 1))) (vs := [.int .i64 (E.rev + 1)]) rfl rfl rfl rfl rfl rfl HI.out.1 HI.out.2 rfl Hib2.out (by rw [splice_size (by omega)]; show i * 4 + 3 + 1 ≤ _; omega) rfl ?_; intro w3 hb3 hk3); have Hib3 := Lib.hid hb3; clear hb3; (try simp only [Act.put, List.setIfInBounds_toArray, List.set_cons_zero, List.set_cons_succ])))
    go_ret
    have hk13 : Keeps (fun k => k = eb ∨ k = ib) w w3 := ((hk1.mono (M' := fun k => k = eb ∨ k = ib) (fun _ _ e => .inl e)).trans hk2 (fun _ _ e => .inr e)).trans hk3 (fun _ _ e => .inr e)
    refine ⟨by rw [← HR.out]; rfl, hk13, ?_⟩
    rw [← HR.out]
    have hX : ∀ b, b < w.heap.size → X b → ¬ (b = eb ∨ b = ib) := fun b _ hx e => by
      rcases e with rfl | rfl
      · exact He.out.xe hx
      · exact He.out.xi hx
    obtain ⟨es, c, hmb, _⟩ := id He.out.ans
    have hmn : ¬ (mb = eb ∨ mb = ib) := fun e => by
      rcases e with e | e
      · rw [e] at hmb; have := hmb.symm.trans Hb.out; injection this with this; cases this
      · rw [e] at hmb; have := hmb.symm.trans Hib.out; injection this with this; cases this
    exact ⟨⟨_, cc2, hk3.blk (hk2.blk Hb1.out nei) nei, Hrx2.out.keep hk13 hX (fun _ _ h => h)⟩, ⟨_, Hib3.out, (Hci.out.value hin HE.out.ilen v).change hin HE.out.clen (E.rev + 1)⟩, He.out.ans.keep hk13 hmn hX (fun _ _ h => h), He.out.xe, He.out.xi, He.out.xm⟩
end Go.Proofs.QW

/-
  Plain, in memory: the model's asking of a new engine. Condition: the table of kinds lies as it is laid.
-/
namespace Go.Proofs.QW
open Go.RowKit Go.Proofs.KL Go.Proofs.QM
set_option maxRecDepth 100000
set_option linter.unusedSimpArgs false
set_option linter.unusedVariables false

set_option maxHeartbeats 2000000 in
/-- Ask of a question that there is not. -/
theorem Ask_none {E : Env} (w : World) (X : Nat → Prop) (eb ib mb : Nat) (ans : List (Option KeptR)) (q most : Int) (he : EngAt w X eb ib mb E ans) (h200 : E.rules.length ≤ 200) (hq : q < 0 ∨ (E.rules.length : Int) ≤ q) :
    Calls Tryd.prog 18 #[.pointer (some ⟨eb, 0, none⟩), .int .i64 q, .int .i64 most] w fun e w' => e = .returned (.tuple #[.int .i64 0, .slice none 0 0, .int .i64 5]) ∧ Keeps Nob w w' := by
  obtain ⟨A, cc, cc', b0, b1, b2, b3, hrx⟩ := he.cells
  obtain ⟨i3, hi3, hs3⟩ := infoS3
  obtain ⟨i23, hi23, hs23⟩ := info23
  obtain ⟨i25, hi25, hs25⟩ := info25
  have HI := Lib.hid (And.intro (And.intro hi3 hs3) (And.intro (And.intro hi23 hs23) (And.intro hi25 hs25)))
  have hE0 : isErr E.rules.length q = 5 := if_pos hq
  have HE0 := Lib.hid hE0
  have hmf : ∀ (fn : Fn) (first cap : Array Value) (w : World), (Instr.makeFunc fn first cap).run Tryd.prog w = .ok (.func fn first cap) w := fun _ _ _ _ => rfl
  clear hi3 hs3 hi23 hs23 hi25 hs25 hE0 hrx he b1 b3 hq
  go_enter_defers Tryd.func18, Tryd.ntmps18
  go_wp2_with (first
    | ((with_reducible refine at_dst (N := 6) rfl ?_); go_must (refine ev_alloc rfl rfl zero3 rfl ?_; intro g6 w1 hg6 hl6 hb6 hk1); have Hb6 := Lib.hid hb6; clear hb6; (try simp only [Act.put, List.setIfInBounds_toArray, List.set_cons_zero, List.set_cons_succ]))
    | ((with_reducible refine at_dst (N := 7) rfl ?_); go_must (refine ev_alloc rfl rfl zero23 rfl ?_; intro g7 w2 hg7 hl7 hb7 hk2); have Hb7 := Lib.hid hb7; clear hb7; (try simp only [Act.put, List.setIfInBounds_toArray, List.set_cons_zero, List.set_cons_succ]))
    | ((with_reducible refine at_dst (N := 8) rfl ?_); go_must (refine ev_alloc rfl rfl zero25 rfl ?_; intro g8 w3 hg8 hl8 hb8 hk3); have Hb8 := Lib.hid hb8; clear hb8
       have b0 := hk3.cell (hk2.cell (hk1.cell b0 id) id) id
       have b2 := hk3.cell (hk2.cell (hk1.cell b2 id) id) id
       (try simp only [Act.put, List.setIfInBounds_toArray, List.set_cons_zero, List.set_cons_succ]))
    | (go_at_call 38; go_must (refine (is_some eb mb q A E.rules.length cc w3 b2 b0 h200).mono ?_; rintro e w' ⟨rfl, rfl⟩; rw [HE0.out]))
    | ((with_reducible refine at_store (t := 3) rfl ?_); go_must (refine ev_store (cs' := #[.int .i64 0]) rfl rfl rfl rfl rfl rfl HI.out.1.1 HI.out.1.2 rfl (hk3.blk (hk2.blk Hb6.out id) id) (Nat.le_of_ble_eq_true rfl) rfl ?_; intro w4 hb4 hk4); (try simp only [Act.put, List.setIfInBounds_toArray, List.set_cons_zero, List.set_cons_succ]))
    | ((with_reducible refine at_store (t := 23) rfl ?_); go_must (refine ev_store (cs' := #[.slice none 0 0]) rfl rfl rfl rfl rfl rfl HI.out.2.1.1 HI.out.2.1.2 rfl (hk4.blk (hk3.blk Hb7.out id) (by show g7 ≠ g6; omega)) (Nat.le_of_ble_eq_true rfl) rfl ?_; intro w5 hb5 hk5); (try simp only [Act.put, List.setIfInBounds_toArray, List.set_cons_zero, List.set_cons_succ]))
    | ((with_reducible refine at_store (t := 25) rfl ?_); go_must (refine ev_store (cs' := #[.int .i64 5]) rfl rfl rfl rfl rfl rfl HI.out.2.2.1 HI.out.2.2.2 rfl (hk5.blk (hk4.blk Hb8.out (by show g8 ≠ g6; have := hk2.size; omega)) (by show g8 ≠ g7; omega)) (Nat.le_of_ble_eq_true rfl) rfl ?_; intro w6 hb6' hk6); (try simp only [Act.put, List.setIfInBounds_toArray, List.set_cons_zero, List.set_cons_succ])))
  have z1 := hk1.size
  have z2 := hk2.size
  have z3 := hk3.size
  have r6 : w6.cell? ⟨g6, 0, none⟩ = some (.int .i64 0) := (blk_cell (hk6.blk (hk5.blk hb4 (by show g6 ≠ g7; omega)) (by show g6 ≠ g8; omega)) 0).trans rfl
  have r7 : w6.cell? ⟨g7, 0, none⟩ = some (.slice none 0 0) := (blk_cell (hk6.blk hb5 (by show g7 ≠ g8; omega)) 0).trans rfl
  have r8 : w6.cell? ⟨g8, 0, none⟩ = some (.int .i64 5) := (blk_cell hb6' 0).trans rfl
  (try simp only [Exit.inBlock, Exit.then])
  refine ⟨_, results_cells3 (x := .int .i64 0) (y := .slice none 0 0) (z := .int .i64 5) rfl _ _ rfl rfl rfl (by go_simp) (by go_simp) (by go_simp), rfl, ?_⟩
  exact (((((hk1.trans hk2 (fun _ _ h => h)).trans hk3 (fun _ _ h => h)).own hk4 (by omega)).own hk5 (by omega)).own hk6 (by omega))

def badAt (rs : List QRule) (vs : List Int) (i : Nat) : Bool := (rs.getD i default).kind == 1 && (decide (vs.getD i 0 < 0) || decide (1048576 < vs.getD i 0))
def badV (rs : List QRule) (vs : List Int) : Bool := (List.range rs.length).any (badAt rs vs)
def envP (rs : List QRule) (vs : List Int) (most : Int) : Env := ⟨rs, vs, List.replicate rs.length 0, 0, most⟩
def endOf (r : PS × Except Int (Int × Int)) : Int × Int := (match r.2 with | .ok x => x.1 | .error _ => 0, match r.2 with | .ok _ => 0 | .error c => c)
/-- Plain, as a model. -/
def plainF (rs : List QRule) (vs : List Int) (q : Int) : Int × Int :=
  if (check rs).2 ≠ 0 then (0, (check rs).2)
  else if vs.length ≠ rs.length then (0, 2)
  else if badV rs vs = true then (0, 2)
  else if q < 0 ∨ (rs.length : Int) ≤ q then (0, 5)
  else endOf (askF (envP rs vs rs.length) (rs.length + 1) [] ⟨List.replicate rs.length none, []⟩ q)
def ldF (vs : List Int) (n : Nat) : Nat → List Int
  | 0 => List.replicate n 0
  | k + 1 => (ldF vs n k).set k (vs.getD k 0)
theorem ldF_length (vs : List Int) (n : Nat) : ∀ k, (ldF vs n k).length = n
  | 0 => by simp [ldF]
  | k + 1 => by simp [ldF, ldF_length vs n k]
theorem ldF_get (vs : List Int) (n : Nat) : ∀ k i, k ≤ n → i < n → (ldF vs n k).getD i 0 = if i < k then vs.getD i 0 else 0
  | 0, i, _, hi => by rw [ldF, getD_replicate]; simp
  | k + 1, i, hk, hi => by
    rw [ldF, getD_set (by rw [ldF_length]; omega), ldF_get vs n k i (by omega) hi]
    by_cases e : i = k
    · subst e; rw [if_pos rfl, if_pos (by omega)]
    · rw [if_neg e]
      by_cases h : i < k
      · rw [if_pos h, if_pos (by omega)]
      · rw [if_neg h, if_neg (by omega)]
theorem ldF_all {vs : List Int} {n : Nat} (h : vs.length = n) : ldF vs n n = vs := by
  apply List.ext_getElem (by rw [ldF_length, h])
  intro i h1 h2
  have := ldF_get vs n n i (Nat.le_refl _) (by omega)
  rw [if_pos (by omega), List.getD_eq_getElem?_getD, List.getElem?_eq_getElem h1, List.getD_eq_getElem?_getD, List.getElem?_eq_getElem h2] at this
  exact this
theorem envP_ok {rs : List QRule} {vs : List Int} (hc : (check rs).2 = 0) (hl : vs.length = rs.length) (hb : ∀ i, i < rs.length → badAt rs vs i = false) (most : Int) (h0 : 0 ≤ most) (h1 : most ≤ 9223372036854775807) : EnvOk (envP rs vs most) := by
  obtain ⟨h200, hrok⟩ := check_ok hc
  refine ⟨h200, hrok, hl, by simp [envP], fun q h0 h1 hk => ?_, Int.le_refl _, by simp [envP], h0, h1⟩
  have hq : q.toNat < rs.length := by simp only [envP] at h1; omega
  have hb := hb q.toNat hq
  have hk' : (rs.getD q.toNat default).kind = 1 := hk
  unfold badAt at hb
  rw [hk'] at hb
  simp only [envP, List.getD_eq_getElem?_getD]
  simp at hb
  omega
theorem EngAt.input {w w' : World} {X : Nat → Prop} {eb ib mb : Nat} {E : Env} {ans : List (Option KeptR)} {cs : Array Value} {k : Nat} {v : Int} (he : EngAt w X eb ib mb E ans) (hk : Keeps (· = ib) w w') (hib : w.heap[ib]? = some (.cells cs 85 (0, 0))) (hb : w'.heap[ib]? = some (.cells (splice cs (k * 4) (.int .i64 v)) 85 (0, 0)))
    (hkn : k < E.rules.length) (hl : E.inp.length = E.rules.length) : EngAt w' X eb ib mb { E with inp := E.inp.set k v } ans := by
  obtain ⟨⟨rv, c, heb, hrx⟩, ⟨cs0, hib0, hci⟩, hans, xe, xi, xm⟩ := he
  obtain rfl : cs0 = cs := by have := hib0.symm.trans hib; injection this with this; injection this
  obtain ⟨es, cl, hmb, _⟩ := id hans
  have nei : eb ≠ ib := fun e => by subst e; have := heb.symm.trans hib; injection this with this; injection this with _ h2 _; exact absurd h2 (by decide)
  have nmi : mb ≠ ib := fun e => by rw [e] at hmb; have := hmb.symm.trans hib; injection this with this; cases this
  have hX : ∀ b, b < w.heap.size → X b → ¬ b = ib := fun b _ hx e => xi (e ▸ hx)
  exact ⟨⟨rv, c, hk.blk heb nei, hrx.keep hk hX (fun _ _ h => h)⟩, ⟨_, hb, InpC.value (n := E.rules.length) hci hkn hl v⟩, hans.keep hk nmi hX (fun _ _ h => h), xe, xi, xm⟩
theorem PInv.fresh (rs : List QRule) (vs : List Int) (most : Int) (h0 : 0 ≤ most) : PInv (envP rs vs most) [] ⟨List.replicate rs.length none, []⟩ := by
  refine ⟨by simp [envP], fun q k hq hk => ?_, List.nodup_nil, fun q h => (by cases h), h0, fun q h => (by cases h), List.nodup_nil, fun q h => (by cases h)⟩
  unfold PS.get at hk
  rw [getD_replicate] at hk
  cases hk
set_option maxHeartbeats 4000000 in
/-- PLAIN. -/
theorem Plain_any (rs : List QRule) (vs : List Int) (q : Int) (w : World) (X X' : Nat → Prop) (rv iv : Value) (hr : RulesX w X rv rs) (hv : IntsX w X' iv vs) (ht : rs.length ≤ 200 → Tab w) :
    Calls Tryd.prog 15 #[rv, iv, .int .i64 q] w fun e w' => e = .returned (.tuple #[.int .i64 (plainF rs vs q).1, .int .i64 (plainF rs vs q).2]) ∧ Keeps Nob w w' := by
  have hrun := Lib.hid (Check_any rs w X rv hr ht)
  obtain ⟨R, hR⟩ : ∃ r, plainF rs vs q = r := ⟨_, rfl⟩
  obtain ⟨i3, hi3, hs3⟩ := infoS3
  have HI := Lib.hid (And.intro hi3 hs3)
  clear hi3 hs3
  rw [hR]
  unfold plainF at hR
  have HR := Lib.hid hr
  have HV := Lib.hid hv
  have HT := Lib.hid ht
  obtain ⟨rA, rc, rfl, -, -⟩ := id hr
  obtain ⟨vA, vc, rfl, -, hvc⟩ := id hv
  have Hvc := Lib.hid hvc
  have hcc := Lib.hid (@check_ok rs)
  have hcf := Lib.hid (@envP_ok rs vs)
  have hnew := Lib.hid (fun w hr ht => New_any rs w X (.slice rA rs.length rc) hr ht)
  rcases hc : check rs with ⟨c1, c2⟩
  rw [hc] at hrun hR hcc hcf
  simp only [hc] at hnew
  dsimp only at hR hcc hcf
  have HRR := Lib.hid hR
  clear hr hv ht hR hc hvc
  by_cases h0 : c2 = 0
  · subst h0
    have hr := HRR.out
    rw [if_neg (by decide)] at hr
    have h200 : rs.length ≤ 200 := (hcc.out rfl).1
    by_cases hl : vs.length = rs.length
    · rw [if_neg (by simp [hl])] at hr
      have HR2 := Lib.hid hr
      have Hl := Lib.hid hl
      have hlb : ((vs.length : Int) != (rs.length : Int)) = false := by simp [hl]
      clear hr HRR hl
      go_enter Tryd.func15, Tryd.ntmps15
      go_wp2_with (first
        | (go_at_call 22; go_must (refine hrun.out.mono ?_; rintro e w1 ⟨rfl, hk1⟩))
        | (go_at_call 23; go_must (refine (hnew.out w1 (HR.out.keep hk1 (fun _ _ _ => id) (fun _ _ h => h)) (fun h => (HT.out h).keep hk1 id)).mono ?_; rintro e w2 ⟨hk2, -, hok⟩; obtain ⟨eb, ib, mb, Y, rfl, heng, hY, neb, nib, nmb⟩ := hok trivial); clear hok))
      have Heng := Lib.hid (heng rs.length)
      have HY := Lib.hid hY
      have z1 := hk1.size
      have HKw := Lib.hid (hk1.trans hk2 (fun _ _ h => h))
      clear heng hY hk1 hk2 hnew hrun HR HT hlb
      go_loopw [38] (fun v wr => ∃ k : Nat, v = .int .i64 k ∧ k ≤ rs.length ∧ Hid (Keeps (fun b => b = ib) w2 wr) ∧ Hid (EngAt wr Y eb ib mb (envP rs (ldF vs rs.length k) rs.length) (List.replicate rs.length none)) ∧ Hid (∀ i, i < k → badAt rs vs i = false))
        (fun v _ => rs.length - (intOf v).toNat)
      case atStart => exact ⟨0, rfl, Nat.zero_le _, Lib.hid (Keeps.refl _ _), Heng, Lib.hid (fun i h => absurd h (by omega))⟩
      case round =>
        obtain ⟨k, rfl, hk, hkeep, he, hgood⟩ := hrel
        by_cases hlt : k < rs.length
        · obtain ⟨b, o, rfl, _, hcw⟩ := Hvc.out k (by rw [Hl.out]; exact hlt)
          have lb := World.block_lt_of_cell? _ _ hcw
          dsimp only at lb
          have hcw := hkeep.out.cell (HKw.out.cell hcw id) (by show b ≠ ib; omega)
          obtain ⟨A, cc, cc', b0, b1, b2, b3, hrx⟩ := he.out.cells
          have hinp := Lib.hid (input_any eb k rs Y _ wr b0 hrx (by omega) (by omega) h200)
          have hlv : (k : Int) < vs.length := by have := Hl.out; omega
          have hli : (k : Int) < (envP rs (ldF vs rs.length k) rs.length).rules.length := by show (k : Int) < rs.length; omega
          simp only [Int.toNat_natCast] at hinp
          have hbk := Lib.hid (show badAt rs vs k = ((rs.getD k default).kind == 1 && (decide (vs.getD k 0 < 0) || decide (1048576 < vs.getD k 0))) from rfl)
          obtain ⟨kb, hkb⟩ : ∃ x, ((rs.getD k default).kind == 1) = x := ⟨_, rfl⟩
          obtain ⟨v, hv⟩ : ∃ x, vs.getD k 0 = x := ⟨_, rfl⟩
          have hb2 := hbk.out
          rw [hkb, hv] at hb2
          rw [hkb] at hinp
          rw [hv] at hcw
          have Hv := Lib.hid hv
          clear hbk hkb hv hrx b2 b3
          by_cases hbad : kb = true ∧ (v < 0 ∨ 1048576 < v)
          · obtain ⟨rfl, hbv⟩ := hbad
            have hbk := Lib.hid (show badAt rs vs k = true by rw [hb2]; simp; omega)
            clear hb2
            by_cases h1 : v < 0
            · clear hbv
              go_wp2_with (go_at_call 37; go_must (refine hinp.out.mono ?_; rintro e w' ⟨rfl, rfl⟩))
              go_ret2
              have hbad : badV rs vs = true := List.any_eq_true.2 ⟨k, List.mem_range.2 hlt, by rw [hbk.out]⟩
              have hr := HR2.out
              rw [if_pos hbad] at hr
              exact ⟨by rw [← hr]; rfl, HKw.out.trans hkeep.out (fun i hi e => by omega)⟩
            · have h2 : 1048576 < v := by omega
              clear hbv
              go_wp2_with (go_at_call 37; go_must (refine hinp.out.mono ?_; rintro e w' ⟨rfl, rfl⟩))
              go_ret2
              have hbad : badV rs vs = true := List.any_eq_true.2 ⟨k, List.mem_range.2 hlt, by rw [hbk.out]⟩
              have hr := HR2.out
              rw [if_pos hbad] at hr
              exact ⟨by rw [← hr]; rfl, HKw.out.trans hkeep.out (fun i hi e => by omega)⟩
          · have hgk := Lib.hid (show badAt rs vs k = false by
              rw [hb2]
              cases kb with
              | false => rfl
              | true => simp at hbad ⊢; omega)
            clear hb2
            obtain ⟨cs, hib, hci⟩ := id he.out.inp
            have lsz := InpC.lt (n := rs.length) hci hlt
            have hib := Lib.hid hib
            have hld := Lib.hid (show envP rs (ldF vs rs.length (k + 1)) rs.length = { envP rs (ldF vs rs.length k) rs.length with inp := (envP rs (ldF vs rs.length k) rs.length).inp.set k v } by simp only [envP, ldF, Hv.out])
            clear hci
            cases kb with
            | false =>
              go_wp2_with (first
                | (go_at_call 37; go_must (refine hinp.out.mono ?_; rintro e w' ⟨rfl, rfl⟩))
                | ((with_reducible refine at_store (t := 3) rfl ?_); go_must (refine ev_store (cs' := splice cs (k * 4) (.int .i64 v)) (vs := [.int .i64 v]) rfl rfl rfl rfl rfl rfl HI.out.1 HI.out.2 rfl hib.out (by show k * 4 + 1 ≤ _; omega) rfl ?_; intro w5 hb5 hk5); (try simp only [Act.put, List.setIfInBounds_toArray, List.set_cons_zero, List.set_cons_succ])))
              go_roundw
              case rel => exact ⟨k + 1, by go_num, by omega, Lib.hid (hkeep.out.trans hk5 (fun _ _ e => e)), Lib.hid (by rw [hld.out]; exact EngAt.input he.out hk5 hib.out hb5 hlt (by show (ldF vs rs.length k).length = rs.length; exact ldF_length _ _ _)), Lib.hid (fun i hi => by
                by_cases e : i = k
                · rw [e]; exact hgk.out
                · exact hgood.out i (by omega))⟩
              case measure => simp [intOf]; omega
            | true =>
              have v0 : ¬ v < 0 := fun h => hbad ⟨rfl, .inl h⟩
              have v1 : ¬ 1048576 < v := fun h => hbad ⟨rfl, .inr h⟩
              clear hbad
              go_wp2_with (first
                | (go_at_call 37; go_must (refine hinp.out.mono ?_; rintro e w' ⟨rfl, rfl⟩))
                | ((with_reducible refine at_store (t := 3) rfl ?_); go_must (refine ev_store (cs' := splice cs (k * 4) (.int .i64 v)) (vs := [.int .i64 v]) rfl rfl rfl rfl rfl rfl HI.out.1 HI.out.2 rfl hib.out (by show k * 4 + 1 ≤ _; omega) rfl ?_; intro w5 hb5 hk5); (try simp only [Act.put, List.setIfInBounds_toArray, List.set_cons_zero, List.set_cons_succ])))
              go_roundw
              case rel => exact ⟨k + 1, by go_num, by omega, Lib.hid (hkeep.out.trans hk5 (fun _ _ e => e)), Lib.hid (by rw [hld.out]; exact EngAt.input he.out hk5 hib.out hb5 hlt (by show (ldF vs rs.length k).length = rs.length; exact ldF_length _ _ _)), Lib.hid (fun i hi => by
                by_cases e : i = k
                · rw [e]; exact hgk.out
                · exact hgood.out i (by omega))⟩
              case measure => simp [intOf]; omega
        · have hk' : k = rs.length := by omega
          subst hk'
          have hnl : ¬ (rs.length : Int) < vs.length := by have := Hl.out; omega
          have hbf : badV rs vs = false := by
            unfold badV
            rw [List.any_eq_false]
            intro i hi
            rw [hgood.out i (List.mem_range.1 hi)]
            decide
          have hr := HR2.out
          rw [hbf, if_neg (by decide)] at hr
          have he' := he.out
          rw [ldF_all Hl.out] at he'
          by_cases hq : q < 0 ∨ (rs.length : Int) ≤ q
          · rw [if_pos hq] at hr
            have hask := Lib.hid (Ask_none wr Y eb ib mb _ q rs.length he' h200 hq)
            have HR3 := Lib.hid hr
            clear hr hq he' hbf
            go_wp2_with (go_at_call 18; go_must (refine hask.out.mono ?_; rintro e w4 ⟨rfl, hk4⟩))
            go_ret2
            exact ⟨by rw [← HR3.out]; rfl, (HKw.out.trans hkeep.out (fun i hi e => by omega)).trans hk4 (fun _ _ h => h)⟩
          · rw [if_neg hq] at hr
            have hE := hcf.out trivial Hl.out (fun i hi => hgood.out i hi) rs.length (by omega) (by omega)
            have hiq : InQ (envP rs vs rs.length) q := ⟨by omega, by show q < (rs.length : Int); omega⟩
            have hask0 := Ask_any hE wr Y eb ib mb (List.replicate rs.length none) q he' (fun k hk => by have := HY.out k hk; have := hkeep.out.size; omega) (PInv.fresh rs vs _ (by omega)) hiq
            have hask : Hid (Calls Tryd.prog 18 #[.pointer (some ⟨eb, 0, none⟩), .int .i64 q, .int .i64 rs.length] wr fun e w' => ∃ wl, e = .returned (.tuple #[.int .i64 R.1, wl, .int .i64 R.2]) ∧ Keeps (· = mb) wr w') := Lib.hid (hask0.mono (fun e w' h => by
              obtain ⟨X'', wl, he, _, _, hk, _⟩ := h
              exact ⟨wl, by rw [← hr]; exact he, hk⟩))
            clear hr hq he' hbf hE hiq hask0
            go_wp2_with (go_at_call 18; go_must (refine hask.out.mono ?_; rintro e w4 ⟨wl, rfl, hk4⟩))
            go_ret2
            exact ⟨rfl, (HKw.out.trans hkeep.out (fun i hi e => by omega)).trans hk4 (fun i hi e => by omega)⟩
    · rw [if_pos hl] at hr
      have HR2 := Lib.hid hr
      have hlb : ((vs.length : Int) != (rs.length : Int)) = true := by simp; omega
      clear hr HRR hl
      go_enter Tryd.func15, Tryd.ntmps15
      go_wp2_with (go_at_call 22; go_must (refine hrun.out.mono ?_; rintro e w1 ⟨rfl, hk1⟩))
      go_ret2
      exact ⟨by rw [← HR2.out]; rfl, hk1⟩
  · have hr := HRR.out
    rw [if_pos h0] at hr
    have HR2 := Lib.hid hr
    clear hr
    have h0' : (c2 != 0) = true := by simpa using h0
    go_enter Tryd.func15, Tryd.ntmps15
    go_wp2_with (go_at_call 22; go_must (refine hrun.out.mono ?_; rintro e w1 ⟨rfl, hk1⟩))
    go_ret2
    exact ⟨by rw [← HR2.out]; rfl, hk1⟩
end Go.Proofs.QW

/-
  The specification's Plain (f13), in memory: it comes to the model's asking from nothing known. Condition: rules and inputs that may be, a question that is there.
-/
namespace Go.Proofs.QW
open Go.RowKit Go.Proofs.KL Go.Proofs.QM
set_option maxRecDepth 100000
set_option linter.unusedSimpArgs false
set_option linter.unusedVariables false

def Z80 : Value := .agg #[.bool false, .int .i64 0, .int .i64 0, .int .i64 0]
theorem info80b : (Tryd.prog.info? 80).map (fun i => (i.zero, i.size, i.bytes)) = some (some Z80, 4, 32) := by kernel_rfl
theorem info4b : (Tryd.prog.info? 4).map (fun i => (i.zero, i.size, i.bytes)) = some (some (.bool false), 1, 1) := by kernel_rfl
theorem made80 {n i : Nat} (hi : i < n) : (madeCells Z80.cells (n * 4))[i * 4]? = some (.bool false) ∧ (madeCells Z80.cells (n * 4))[i * 4 + 1]? = some (.int .i64 0) ∧ (madeCells Z80.cells (n * 4))[i * 4 + 2]? = some (.int .i64 0) ∧ (madeCells Z80.cells (n * 4))[i * 4 + 3]? = some (.int .i64 0) := by
  have h := fun j (hj : j < n * 4) => madeCells_get (z := Z80) (sz := 4) rfl (by decide) hj
  refine ⟨(h (i * 4) (by omega)).trans ?_, (h (i * 4 + 1) (by omega)).trans ?_, (h (i * 4 + 2) (by omega)).trans ?_, (h (i * 4 + 3) (by omega)).trans ?_⟩
  · simp only [show i * 4 % 4 = 0 by omega]; rfl
  · simp only [show (i * 4 + 1) % 4 = 1 by omega]; rfl
  · simp only [show (i * 4 + 2) % 4 = 2 by omega]; rfl
  · simp only [show (i * 4 + 3) % 4 = 3 by omega]; rfl
theorem made4 {n i : Nat} (hi : i < n) : (madeCells (Value.bool false).cells (n * 1))[i]? = some (.bool false) := by
  refine (madeCells_get (z := .bool false) (sz := 1) rfl (by decide) (by omega : i < n * 1)).trans ?_
  simp only [Nat.mod_one]; rfl
theorem KB_none (n : Nat) : KB n (List.replicate n none) := ⟨by simp, fun i v c h => by rw [getD_replicate] at h; cases h⟩
theorem plain_start {w : World} {X Y : Nat → Prop} {pb kb nb : Nat} {E : Env} {rv iv : Value} (hb : w.heap[pb]? = some (.cells #[rv, iv, .slice (some ⟨kb, 0, none⟩) E.rules.length E.rules.length, .slice (some ⟨nb, 0, none⟩) E.rules.length E.rules.length] 78 (0, 0))) (hr : RulesX w X rv E.rules) (hv : IntsX w Y iv E.inp)
    (hk : w.heap[kb]? = some (.cells (madeCells Z80.cells (E.rules.length * 4)) 80 (0, 0))) (hn : w.heap[nb]? = some (.cells (madeCells (Value.bool false).cells (E.rules.length * 1)) 4 (0, 0))) (x1 : ¬ X kb) (x2 : ¬ X nb) (y1 : ¬ Y kb) (y2 : ¬ Y nb) :
    PlainAt w X Y pb kb nb E.rules E.inp [] (List.replicate E.rules.length none) := by
  refine ⟨⟨rv, iv, hb, hr, hv⟩, ⟨_, hk, fun i hi => ?_⟩, ⟨_, hn, fun i hi => ?_⟩, x1, x2, y1, y2⟩
  · obtain ⟨h1, h2, h3, h4⟩ := made80 (n := E.rules.length) hi
    rw [getD_replicate]
    exact ⟨h1, h2, h3, h4⟩
  · rw [made4 hi]; simp
set_option maxHeartbeats 2000000 in
/-- THE SPECIFICATION'S PLAIN. -/
theorem RefPlain_any {E : Env} (hE : EnvOk E) (w : World) (X Y : Nat → Prop) (rv iv : Value) (q : Int) (hr : RulesX w X rv E.rules) (hv : IntsX w Y iv E.inp) (hq : InQ E q) {a : RA} (ha : (rAsk E.rules E.inp (E.rules.length + 1) [] (List.replicate E.rules.length none) q).2 = a) :
    Calls Tryd.prog 13 #[rv, iv, .int .i64 q] w fun e w' => e = .returned (.tuple #[.int .i64 a.n, .int .i64 a.cost, .int .i64 a.e]) ∧ Keeps Nob w w' := by
  have hr' := hr.keep (X' := fun b => X b ∧ b < w.heap.size) (Keeps.refl Nob w) (fun _ _ _ => id) (fun b h h' => ⟨h', h⟩)
  have hv' := hv.keep (X' := fun b => Y b ∧ b < w.heap.size) (Keeps.refl Nob w) (fun _ _ _ => id) (fun b h h' => ⟨h', h⟩)
  have Hask := Lib.hid (plain_ask_all hE (E.rules.length + 1) [] List.nodup_nil (fun _ h => by cases h) (by simp))
  have h200 := hE.len
  rcases hra : rAsk E.rules E.inp (E.rules.length + 1) [] (List.replicate E.rules.length none) q with ⟨s1, a1⟩
  rw [hra] at ha
  obtain rfl : a1 = a := ha
  obtain ⟨an, ac, ae⟩ := a1
  have Hra := Lib.hid hra
  have HR := Lib.hid hr'
  have HV := Lib.hid hv'
  have Hq := Lib.hid hq
  obtain ⟨rA, rc, rfl, -, -⟩ := id hr
  obtain ⟨vA, vc, rfl, -, -⟩ := id hv
  obtain ⟨n, hn⟩ : ∃ n, E.rules.length = n := ⟨_, rfl⟩
  have Hn := Lib.hid hn
  rw [hn] at h200 ⊢
  clear hr hv hr' hv' hra hq hn
  have Hkc := Lib.hid (Keeps.refl Nob w).drew
  go_enter Tryd.func13, Tryd.ntmps13
  go_wp2_with fail
  refine wp_region_tree (.q 0 (.q 1 (.q 2 (.q 3 (.q 5 (.q 6 (.br [4, 7] (fun k => bif Nat.beq k 4 then .br [7] (fun k => .q 8 (.br [9] (fun k => .q 10 (.done)))) else .br [4] (fun k => .q 8 (.br [9] (fun k => .q 10 (.done)))))))))))) (fun w' => True) rfl (by kernel_rfl) (by kernel_rfl) (fun c a d v w h => by cases d <;> exact h) trivial ?_
  refine tree_q (v := ?v1_12) (some 11) rfl rfl rfl ?q1_12 ?h1_12; (case q1_12 => (intro w' hS; skip; first | (go_simp; done) | (go_simp; rfl))); (try simp only [Act.put, List.setIfInBounds_toArray, List.set_cons_zero, List.set_cons_succ])
  refine tree_q (v := ?v1_11) (some 12) rfl rfl rfl ?q1_11 ?h1_11; (case q1_11 => (intro w' hS; skip; first | (go_simp; done) | (go_simp; rfl))); (try simp only [Act.put, List.setIfInBounds_toArray, List.set_cons_zero, List.set_cons_succ])
  refine tree_q (v := ?v1_10) (some 13) rfl rfl rfl ?q1_10 ?h1_10; (case q1_10 => (intro w' hS; skip; first | (go_simp; done) | (go_simp; rfl))); (try simp only [Act.put, List.setIfInBounds_toArray, List.set_cons_zero, List.set_cons_succ])
  refine tree_q (v := ?v1_9) (some 14) rfl rfl rfl ?q1_9 ?h1_9; (case q1_9 => (intro w' hS; skip; first | (go_simp; done) | (go_simp; rfl))); (try simp only [Act.put, List.setIfInBounds_toArray, List.set_cons_zero, List.set_cons_succ])
  refine tree_q (v := ?v1_8) (some 16) rfl rfl rfl ?q1_8 ?h1_8; (case q1_8 => (intro w' hS; skip; first | (go_simp; done) | (go_simp; rfl))); (try simp only [Act.put, List.setIfInBounds_toArray, List.set_cons_zero, List.set_cons_succ])
  refine tree_q (v := ?v1_7) (some 17) rfl rfl rfl ?q1_7 ?h1_7; (case q1_7 => (intro w' hS; skip; first | (go_simp; done) | (go_simp; rfl))); (try simp only [Act.put, List.setIfInBounds_toArray, List.set_cons_zero, List.set_cons_succ])
  refine tree_b rfl rfl ?b1_3 ?nb1_3
  case' b1_3 =>   -- 4: makeSlice 75 t14 t14
    go_must (refine ev_makeSlice rfl rfl n rfl rfl Tryd.underlying75 info80b rfl (by decide) (by omega) (by omega) ?_; intro gk wk hgk hlk hbk hkk)
    (try simp only [Act.put, List.setIfInBounds_toArray, List.set_cons_zero, List.set_cons_succ])
    refine wpList_nil ⟨trivial, ?_⟩
    have zk := hkk.size
    have Hkc := Lib.hid (Hkc.out.trans hkk (fun _ _ h => h))
    have Hbk := Lib.hid hbk
    (try have Hbn := Lib.hid (hkk.blk Hbn.out id))
    clear hkk hbk
    refine tree_e rfl rfl ?_   -- 7: makeSlice 76 t17 t17
    go_must (refine ev_makeSlice rfl rfl n rfl rfl Tryd.underlying76 info4b rfl (by decide) (by omega) (by omega) ?_; intro gn wn hgn hln hbn hkn)
    (try simp only [Act.put, List.setIfInBounds_toArray, List.set_cons_zero, List.set_cons_succ])
    refine wpList_nil ⟨trivial, ?_⟩
    have zn := hkn.size
    have Hkc := Lib.hid (Hkc.out.trans hkn (fun _ _ h => h))
    have Hbn := Lib.hid hbn
    (try have Hbk := Lib.hid (hkn.blk Hbk.out id))
    clear hkn hbn
    refine tree_q (v := ?v1_2) (some 19) rfl rfl rfl ?q1_2 ?h1_2; (case q1_2 => (intro w' hS; skip; first | (go_simp; done) | (go_simp; rfl))); (try simp only [Act.put, List.setIfInBounds_toArray, List.set_cons_zero, List.set_cons_succ])
    refine tree_e rfl rfl ?_   -- 9: box 78 t19
    go_must (refine ev_box (cs := #[.slice rA n rc, .slice vA E.inp.length vc, .slice (some ⟨gk, 0, none⟩) n n, .slice (some ⟨gn, 0, none⟩) n n]) rfl rfl rfl ?_; intro gp wp hgp hlp hbp hkp)
    (try simp only [Act.put, List.setIfInBounds_toArray, List.set_cons_zero, List.set_cons_succ])
    refine wpList_nil ⟨trivial, ?_⟩
    have zp := hkp.size
    have Hkc := Lib.hid (Hkc.out.trans hkp (fun _ _ h => h))
    have Hbp := Lib.hid hbp
    have Hbk := Lib.hid (hkp.blk Hbk.out id)
    have Hbn := Lib.hid (hkp.blk Hbn.out id)
    clear hkp hbp
    refine tree_q (v := ?v1_1) (some 9) rfl rfl rfl ?q1_1 ?h1_1; (case q1_1 => (intro w' hS; skip; first | (go_simp; done) | (go_simp; rfl))); (try simp only [Act.put, List.setIfInBounds_toArray, List.set_cons_zero, List.set_cons_succ])
    refine tree_nil ?_
  case' nb1_3 =>
    refine tree_e rfl rfl ?b1_6
    case' b1_6 =>   -- 7: makeSlice 76 t17 t17
      go_must (refine ev_makeSlice rfl rfl n rfl rfl Tryd.underlying76 info4b rfl (by decide) (by omega) (by omega) ?_; intro gn wn hgn hln hbn hkn)
      (try simp only [Act.put, List.setIfInBounds_toArray, List.set_cons_zero, List.set_cons_succ])
      refine wpList_nil ⟨trivial, ?_⟩
      have zn := hkn.size
      have Hkc := Lib.hid (Hkc.out.trans hkn (fun _ _ h => h))
      have Hbn := Lib.hid hbn
      (try have Hbk := Lib.hid (hkn.blk Hbk.out id))
      clear hkn hbn
      refine tree_e rfl rfl ?_   -- 4: makeSlice 75 t14 t14
      go_must (refine ev_makeSlice rfl rfl n rfl rfl Tryd.underlying75 info80b rfl (by decide) (by omega) (by omega) ?_; intro gk wk hgk hlk hbk hkk)
      (try simp only [Act.put, List.setIfInBounds_toArray, List.set_cons_zero, List.set_cons_succ])
      refine wpList_nil ⟨trivial, ?_⟩
      have zk := hkk.size
      have Hkc := Lib.hid (Hkc.out.trans hkk (fun _ _ h => h))
      have Hbk := Lib.hid hbk
      (try have Hbn := Lib.hid (hkk.blk Hbn.out id))
      clear hkk hbk
      refine tree_q (v := ?v1_5) (some 19) rfl rfl rfl ?q1_5 ?h1_5; (case q1_5 => (intro w' hS; skip; first | (go_simp; done) | (go_simp; rfl))); (try simp only [Act.put, List.setIfInBounds_toArray, List.set_cons_zero, List.set_cons_succ])
      refine tree_e rfl rfl ?_   -- 9: box 78 t19
      go_must (refine ev_box (cs := #[.slice rA n rc, .slice vA E.inp.length vc, .slice (some ⟨gk, 0, none⟩) n n, .slice (some ⟨gn, 0, none⟩) n n]) rfl rfl rfl ?_; intro gp wp hgp hlp hbp hkp)
      (try simp only [Act.put, List.setIfInBounds_toArray, List.set_cons_zero, List.set_cons_succ])
      refine wpList_nil ⟨trivial, ?_⟩
      have zp := hkp.size
      have Hkc := Lib.hid (Hkc.out.trans hkp (fun _ _ h => h))
      have Hbp := Lib.hid hbp
      have Hbk := Lib.hid (hkp.blk Hbk.out id)
      have Hbn := Lib.hid (hkp.blk Hbn.out id)
      clear hkp hbp
      refine tree_q (v := ?v1_4) (some 9) rfl rfl rfl ?q1_4 ?h1_4; (case q1_4 => (intro w' hS; skip; first | (go_simp; done) | (go_simp; rfl))); (try simp only [Act.put, List.setIfInBounds_toArray, List.set_cons_zero, List.set_cons_succ])
      refine tree_nil ?_
  · skip
    have hne := Hn.out
    subst hne
    have zd : w.drew.heap.size = w.heap.size := rfl
    have Hstart := plain_start Hbp.out (HR.out.keep (X' := fun b => X b ∧ b < w.heap.size) Hkc.out (fun _ _ _ => id) (fun _ _ h => h)) (HV.out.keep (X' := fun b => Y b ∧ b < w.heap.size) Hkc.out (fun _ _ _ => id) (fun _ _ h => h)) Hbk.out Hbn.out (fun h => by have := h.2; omega) (fun h => by have := h.2; omega) (fun h => by have := h.2; omega) (fun h => by have := h.2; omega)
    have hrun := Hask.out _ _ _ _ _ _ _ q Hstart (KB_none _) Hq.out
    rw [Hra.out] at hrun
    have Hrun := Lib.hid hrun
    obtain ⟨i80, hi80, hs80⟩ := info80
    have HI := Lib.hid (And.intro hi80 hs80)
    have Hs := Lib.hid (show w.heap.size ≤ gk ∧ w.heap.size ≤ gn ∧ w.heap.size ≤ wp.heap.size by omega)
    clear hrun Hstart hi80 hs80
    go_wp2_with (first
      | (go_at_call 35; go_must (refine Hrun.out.mono ?_; rintro e w2 ⟨⟨b2, rfl⟩, hk2, -⟩); (try simp only [Act.put, List.setIfInBounds_toArray, List.set_cons_zero, List.set_cons_succ]))
      | ((with_reducible refine at_dst (N := 10) rfl ?_); go_must (refine ev_alloc rfl rfl zero80 rfl ?_; intro g3 w3 hg3 hl3 hb3 hk3); have Hb3 := Lib.hid hb3; clear hb3; (try simp only [Act.put, List.setIfInBounds_toArray, List.set_cons_zero, List.set_cons_succ]))
      | ((with_reducible refine at_store (t := 80) rfl ?_); go_must (refine ev_store (cs' := #[.bool b2, .int .i64 an, .int .i64 ac, .int .i64 ae]) rfl rfl rfl rfl rfl rfl HI.out.1 HI.out.2 rfl Hb3.out (Nat.le_of_ble_eq_true rfl) rfl ?_; intro w4 hb4 hk4); have f1 := (blk_cell hb4 1).trans rfl; have f2 := (blk_cell hb4 2).trans rfl; have f3 := (blk_cell hb4 3).trans rfl; clear hb4; (try simp only [Act.put, List.setIfInBounds_toArray, List.set_cons_zero, List.set_cons_succ])))
    have hk14 : Keeps Nob w w4 := ((Hkc.out.trans hk2 (fun i hi hm => by have h1 := Hs.out; rcases hm with hm | hm <;> omega)).trans hk3 (fun _ _ h => h)).own hk4 (by have h1 := Hs.out; have h2 := hk2.size; omega)
    refine wp_region_perm [(0, true), (1, true), (2, true), (3, true), (4, true), (5, true), (6, true), (7, true), (8, true)] (fun w' => w'.cell? ⟨g3, 1, none⟩ = some (.int .i64 an) ∧ w'.cell? ⟨g3, 2, none⟩ = some (.int .i64 ac) ∧ w'.cell? ⟨g3, 3, none⟩ = some (.int .i64 ae)) rfl (by kernel_rfl) (by kernel_rfl) (by decide) (fun c a d v w h => by cases d <;> exact h) ⟨f1, f2, f3⟩ ?_
    refine perm_q (v := ?v2_0) (some 24) rfl rfl rfl ?q2_0 ?h2_0; (case q2_0 => (intro w' hS; obtain ⟨s1, s2, s3⟩ := hS; first | (go_simp; done) | (go_simp; rfl))); (try simp only [Act.put, List.setIfInBounds_toArray, List.set_cons_zero, List.set_cons_succ])
    refine perm_q (v := ?v2_1) (some 25) rfl rfl rfl ?q2_1 ?h2_1; (case q2_1 => (intro w' hS; obtain ⟨s1, s2, s3⟩ := hS; first | (go_simp; done) | (go_simp; rfl))); (try simp only [Act.put, List.setIfInBounds_toArray, List.set_cons_zero, List.set_cons_succ])
    refine perm_q (v := ?v2_2) (some 26) rfl rfl rfl ?q2_2 ?h2_2; (case q2_2 => (intro w' hS; obtain ⟨s1, s2, s3⟩ := hS; first | (go_simp; done) | (go_simp; rfl))); (try simp only [Act.put, List.setIfInBounds_toArray, List.set_cons_zero, List.set_cons_succ])
    refine perm_q (v := ?v2_3) (some 27) rfl rfl rfl ?q2_3 ?h2_3; (case q2_3 => (intro w' hS; obtain ⟨s1, s2, s3⟩ := hS; first | (go_simp; done) | (go_simp; rfl))); (try simp only [Act.put, List.setIfInBounds_toArray, List.set_cons_zero, List.set_cons_succ])
    refine perm_q (v := ?v2_4) (some 28) rfl rfl rfl ?q2_4 ?h2_4; (case q2_4 => (intro w' hS; obtain ⟨s1, s2, s3⟩ := hS; first | (go_simp; done) | (go_simp; rfl))); (try simp only [Act.put, List.setIfInBounds_toArray, List.set_cons_zero, List.set_cons_succ])
    refine perm_q (v := ?v2_5) (some 29) rfl rfl rfl ?q2_5 ?h2_5; (case q2_5 => (intro w' hS; obtain ⟨s1, s2, s3⟩ := hS; first | (go_simp; done) | (go_simp; rfl))); (try simp only [Act.put, List.setIfInBounds_toArray, List.set_cons_zero, List.set_cons_succ])
    refine perm_q (v := ?v2_6) (some 6) rfl rfl rfl ?q2_6 ?h2_6; (case q2_6 => (intro w' hS; obtain ⟨s1, s2, s3⟩ := hS; first | (go_simp; done) | (go_simp; rfl))); (try simp only [Act.put, List.setIfInBounds_toArray, List.set_cons_zero, List.set_cons_succ])
    refine perm_q (v := ?v2_7) (some 7) rfl rfl rfl ?q2_7 ?h2_7; (case q2_7 => (intro w' hS; obtain ⟨s1, s2, s3⟩ := hS; first | (go_simp; done) | (go_simp; rfl))); (try simp only [Act.put, List.setIfInBounds_toArray, List.set_cons_zero, List.set_cons_succ])
    refine perm_q (v := ?v2_8) (some 8) rfl rfl rfl ?q2_8 ?h2_8; (case q2_8 => (intro w' hS; obtain ⟨s1, s2, s3⟩ := hS; first | (go_simp; done) | (go_simp; rfl))); (try simp only [Act.put, List.setIfInBounds_toArray, List.set_cons_zero, List.set_cons_succ])
    refine perm_nil ?_
    go_wp2
    go_ret3
    exact ⟨rfl, hk14.drew⟩
  · skip
    have hne := Hn.out
    subst hne
    have zd : w.drew.heap.size = w.heap.size := rfl
    have Hstart := plain_start Hbp.out (HR.out.keep (X' := fun b => X b ∧ b < w.heap.size) Hkc.out (fun _ _ _ => id) (fun _ _ h => h)) (HV.out.keep (X' := fun b => Y b ∧ b < w.heap.size) Hkc.out (fun _ _ _ => id) (fun _ _ h => h)) Hbk.out Hbn.out (fun h => by have := h.2; omega) (fun h => by have := h.2; omega) (fun h => by have := h.2; omega) (fun h => by have := h.2; omega)
    have hrun := Hask.out _ _ _ _ _ _ _ q Hstart (KB_none _) Hq.out
    rw [Hra.out] at hrun
    have Hrun := Lib.hid hrun
    obtain ⟨i80, hi80, hs80⟩ := info80
    have HI := Lib.hid (And.intro hi80 hs80)
    have Hs := Lib.hid (show w.heap.size ≤ gk ∧ w.heap.size ≤ gn ∧ w.heap.size ≤ wp.heap.size by omega)
    clear hrun Hstart hi80 hs80
    go_wp2_with (first
      | (go_at_call 35; go_must (refine Hrun.out.mono ?_; rintro e w2 ⟨⟨b2, rfl⟩, hk2, -⟩); (try simp only [Act.put, List.setIfInBounds_toArray, List.set_cons_zero, List.set_cons_succ]))
      | ((with_reducible refine at_dst (N := 10) rfl ?_); go_must (refine ev_alloc rfl rfl zero80 rfl ?_; intro g3 w3 hg3 hl3 hb3 hk3); have Hb3 := Lib.hid hb3; clear hb3; (try simp only [Act.put, List.setIfInBounds_toArray, List.set_cons_zero, List.set_cons_succ]))
      | ((with_reducible refine at_store (t := 80) rfl ?_); go_must (refine ev_store (cs' := #[.bool b2, .int .i64 an, .int .i64 ac, .int .i64 ae]) rfl rfl rfl rfl rfl rfl HI.out.1 HI.out.2 rfl Hb3.out (Nat.le_of_ble_eq_true rfl) rfl ?_; intro w4 hb4 hk4); have f1 := (blk_cell hb4 1).trans rfl; have f2 := (blk_cell hb4 2).trans rfl; have f3 := (blk_cell hb4 3).trans rfl; clear hb4; (try simp only [Act.put, List.setIfInBounds_toArray, List.set_cons_zero, List.set_cons_succ])))
    have hk14 : Keeps Nob w w4 := ((Hkc.out.trans hk2 (fun i hi hm => by have h1 := Hs.out; rcases hm with hm | hm <;> omega)).trans hk3 (fun _ _ h => h)).own hk4 (by have h1 := Hs.out; have h2 := hk2.size; omega)
    refine wp_region_perm [(0, true), (1, true), (2, true), (3, true), (4, true), (5, true), (6, true), (7, true), (8, true)] (fun w' => w'.cell? ⟨g3, 1, none⟩ = some (.int .i64 an) ∧ w'.cell? ⟨g3, 2, none⟩ = some (.int .i64 ac) ∧ w'.cell? ⟨g3, 3, none⟩ = some (.int .i64 ae)) rfl (by kernel_rfl) (by kernel_rfl) (by decide) (fun c a d v w h => by cases d <;> exact h) ⟨f1, f2, f3⟩ ?_
    refine perm_q (v := ?v3_0) (some 24) rfl rfl rfl ?q3_0 ?h3_0; (case q3_0 => (intro w' hS; obtain ⟨s1, s2, s3⟩ := hS; first | (go_simp; done) | (go_simp; rfl))); (try simp only [Act.put, List.setIfInBounds_toArray, List.set_cons_zero, List.set_cons_succ])
    refine perm_q (v := ?v3_1) (some 25) rfl rfl rfl ?q3_1 ?h3_1; (case q3_1 => (intro w' hS; obtain ⟨s1, s2, s3⟩ := hS; first | (go_simp; done) | (go_simp; rfl))); (try simp only [Act.put, List.setIfInBounds_toArray, List.set_cons_zero, List.set_cons_succ])
    refine perm_q (v := ?v3_2) (some 26) rfl rfl rfl ?q3_2 ?h3_2; (case q3_2 => (intro w' hS; obtain ⟨s1, s2, s3⟩ := hS; first | (go_simp; done) | (go_simp; rfl))); (try simp only [Act.put, List.setIfInBounds_toArray, List.set_cons_zero, List.set_cons_succ])
    refine perm_q (v := ?v3_3) (some 27) rfl rfl rfl ?q3_3 ?h3_3; (case q3_3 => (intro w' hS; obtain ⟨s1, s2, s3⟩ := hS; first | (go_simp; done) | (go_simp; rfl))); (try simp only [Act.put, List.setIfInBounds_toArray, List.set_cons_zero, List.set_cons_succ])
    refine perm_q (v := ?v3_4) (some 28) rfl rfl rfl ?q3_4 ?h3_4; (case q3_4 => (intro w' hS; obtain ⟨s1, s2, s3⟩ := hS; first | (go_simp; done) | (go_simp; rfl))); (try simp only [Act.put, List.setIfInBounds_toArray, List.set_cons_zero, List.set_cons_succ])
    refine perm_q (v := ?v3_5) (some 29) rfl rfl rfl ?q3_5 ?h3_5; (case q3_5 => (intro w' hS; obtain ⟨s1, s2, s3⟩ := hS; first | (go_simp; done) | (go_simp; rfl))); (try simp only [Act.put, List.setIfInBounds_toArray, List.set_cons_zero, List.set_cons_succ])
    refine perm_q (v := ?v3_6) (some 6) rfl rfl rfl ?q3_6 ?h3_6; (case q3_6 => (intro w' hS; obtain ⟨s1, s2, s3⟩ := hS; first | (go_simp; done) | (go_simp; rfl))); (try simp only [Act.put, List.setIfInBounds_toArray, List.set_cons_zero, List.set_cons_succ])
    refine perm_q (v := ?v3_7) (some 7) rfl rfl rfl ?q3_7 ?h3_7; (case q3_7 => (intro w' hS; obtain ⟨s1, s2, s3⟩ := hS; first | (go_simp; done) | (go_simp; rfl))); (try simp only [Act.put, List.setIfInBounds_toArray, List.set_cons_zero, List.set_cons_succ])
    refine perm_q (v := ?v3_8) (some 8) rfl rfl rfl ?q3_8 ?h3_8; (case q3_8 => (intro w' hS; obtain ⟨s1, s2, s3⟩ := hS; first | (go_simp; done) | (go_simp; rfl))); (try simp only [Act.put, List.setIfInBounds_toArray, List.set_cons_zero, List.set_cons_succ])
    refine perm_nil ?_
    go_wp2
    go_ret3
    exact ⟨rfl, hk14.drew⟩
end Go.Proofs.QW
