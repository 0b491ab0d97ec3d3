/-
  The specification's Plain (f13), in memory: it comes to the model's asking from nothing known. Condition: rules and inputs that may be, a question that is there.
-/
import Derived.Test.YtohpkolkagddiaaDoorQ32
import Derived.Test.YtohpkolkagddiaaDoorQ15
namespace Go.Proofs.QW
open Go.RowKit Go.Proofs.KL Go.Proofs.QM
set_option maxRecDepth 100000
set_option linter.unusedSimpArgs false
set_option linter.unusedVariables false

def Z80 : Value := .agg #[.bool false, .int .i64 0, .int .i64 0, .int .i64 0]
theorem info80b : (Tryd.prog.info? 80).map (fun i => (i.zero, i.size, i.bytes)) = some (some Z80, 4, 32) := by kernel_rfl
theorem info4b : (Tryd.prog.info? 4).map (fun i => (i.zero, i.size, i.bytes)) = some (some (.bool false), 1, 1) := by kernel_rfl
theorem made80 {n i : Nat} (hi : i < n) : (madeCells Z80.cells (n * 4))[i * 4]? = some (.bool false) ∧ (madeCells Z80.cells (n * 4))[i * 4 + 1]? = some (.int .i64 0) ∧ (madeCells Z80.cells (n * 4))[i * 4 + 2]? = some (.int .i64 0) ∧ (madeCells Z80.cells (n * 4))[i * 4 + 3]? = some (.int .i64 0) := by
  have h := fun j (hj : j < n * 4) => madeCells_get (z := Z80) (sz := 4) rfl (by decide) hj
  refine ⟨(h (i * 4) (by omega)).trans ?_, (h (i * 4 + 1) (by omega)).trans ?_, (h (i * 4 + 2) (by omega)).trans ?_, (h (i * 4 + 3) (by omega)).trans ?_⟩
  · simp only [show i * 4 % 4 = 0 by omega]; rfl
  · simp only [show (i * 4 + 1) % 4 = 1 by omega]; rfl
  · simp only [show (i * 4 + 2) % 4 = 2 by omega]; rfl
  · simp only [show (i * 4 + 3) % 4 = 3 by omega]; rfl
theorem made4 {n i : Nat} (hi : i < n) : (madeCells (Value.bool false).cells (n * 1))[i]? = some (.bool false) := by
  refine (madeCells_get (z := .bool false) (sz := 1) rfl (by decide) (by omega : i < n * 1)).trans ?_
  simp only [Nat.mod_one]; rfl
theorem KB_none (n : Nat) : KB n (List.replicate n none) := ⟨by simp, fun i v c h => by rw [getD_replicate] at h; cases h⟩
theorem plain_start {w : World} {X Y : Nat → Prop} {pb kb nb : Nat} {E : Env} {rv iv : Value} (hb : w.heap[pb]? = some (.cells #[rv, iv, .slice (some ⟨kb, 0, none⟩) E.rules.length E.rules.length, .slice (some ⟨nb, 0, none⟩) E.rules.length E.rules.length] 78 (0, 0))) (hr : RulesX w X rv E.rules) (hv : IntsX w Y iv E.inp)
    (hk : w.heap[kb]? = some (.cells (madeCells Z80.cells (E.rules.length * 4)) 80 (0, 0))) (hn : w.heap[nb]? = some (.cells (madeCells (Value.bool false).cells (E.rules.length * 1)) 4 (0, 0))) (x1 : ¬ X kb) (x2 : ¬ X nb) (y1 : ¬ Y kb) (y2 : ¬ Y nb) :
    PlainAt w X Y pb kb nb E.rules E.inp [] (List.replicate E.rules.length none) := by
  refine ⟨⟨rv, iv, hb, hr, hv⟩, ⟨_, hk, fun i hi => ?_⟩, ⟨_, hn, fun i hi => ?_⟩, x1, x2, y1, y2⟩
  · obtain ⟨h1, h2, h3, h4⟩ := made80 (n := E.rules.length) hi
    rw [getD_replicate]
    exact ⟨h1, h2, h3, h4⟩
  · rw [made4 hi]; simp
set_option maxHeartbeats 2000000 in
/-- THE SPECIFICATION'S PLAIN. -/
theorem RefPlain_any {E : Env} (hE : EnvOk E) (w : World) (X Y : Nat → Prop) (rv iv : Value) (q : Int) (hr : RulesX w X rv E.rules) (hv : IntsX w Y iv E.inp) (hq : InQ E q) {a : RA} (ha : (rAsk E.rules E.inp (E.rules.length + 1) [] (List.replicate E.rules.length none) q).2 = a) :
    Calls Tryd.prog 13 #[rv, iv, .int .i64 q] w fun e w' => e = .returned (.tuple #[.int .i64 a.n, .int .i64 a.cost, .int .i64 a.e]) ∧ Keeps Nob w w' := by
  have hr' := hr.keep (X' := fun b => X b ∧ b < w.heap.size) (Keeps.refl Nob w) (fun _ _ _ => id) (fun b h h' => ⟨h', h⟩)
  have hv' := hv.keep (X' := fun b => Y b ∧ b < w.heap.size) (Keeps.refl Nob w) (fun _ _ _ => id) (fun b h h' => ⟨h', h⟩)
  have Hask := Lib.hid (plain_ask_all hE (E.rules.length + 1) [] List.nodup_nil (fun _ h => by cases h) (by simp))
  have h200 := hE.len
  rcases hra : rAsk E.rules E.inp (E.rules.length + 1) [] (List.replicate E.rules.length none) q with ⟨s1, a1⟩
  rw [hra] at ha
  obtain rfl : a1 = a := ha
  obtain ⟨an, ac, ae⟩ := a1
  have Hra := Lib.hid hra
  have HR := Lib.hid hr'
  have HV := Lib.hid hv'
  have Hq := Lib.hid hq
  obtain ⟨rA, rc, rfl, -, -⟩ := id hr
  obtain ⟨vA, vc, rfl, -, -⟩ := id hv
  obtain ⟨n, hn⟩ : ∃ n, E.rules.length = n := ⟨_, rfl⟩
  have Hn := Lib.hid hn
  rw [hn] at h200 ⊢
  clear hr hv hr' hv' hra hq hn
  have Hkc := Lib.hid (Keeps.refl Nob w).drew
  go_enter Tryd.func13, Tryd.ntmps13
  go_wp2_with fail
  refine wp_region_tree (.q 0 (.q 1 (.q 2 (.q 3 (.q 5 (.q 6 (.br [4, 7] (fun k => bif Nat.beq k 4 then .br [7] (fun k => .q 8 (.br [9] (fun k => .q 10 (.done)))) else .br [4] (fun k => .q 8 (.br [9] (fun k => .q 10 (.done)))))))))))) (fun w' => True) rfl (by kernel_rfl) (by kernel_rfl) (fun c a d v w h => by cases d <;> exact h) trivial ?_
  refine tree_q (v := ?v1_12) (some 11) rfl rfl rfl ?q1_12 ?h1_12; (case q1_12 => (intro w' hS; skip; first | (go_simp; done) | (go_simp; rfl))); (try simp only [Act.put, List.setIfInBounds_toArray, List.set_cons_zero, List.set_cons_succ])
  refine tree_q (v := ?v1_11) (some 12) rfl rfl rfl ?q1_11 ?h1_11; (case q1_11 => (intro w' hS; skip; first | (go_simp; done) | (go_simp; rfl))); (try simp only [Act.put, List.setIfInBounds_toArray, List.set_cons_zero, List.set_cons_succ])
  refine tree_q (v := ?v1_10) (some 13) rfl rfl rfl ?q1_10 ?h1_10; (case q1_10 => (intro w' hS; skip; first | (go_simp; done) | (go_simp; rfl))); (try simp only [Act.put, List.setIfInBounds_toArray, List.set_cons_zero, List.set_cons_succ])
  refine tree_q (v := ?v1_9) (some 14) rfl rfl rfl ?q1_9 ?h1_9; (case q1_9 => (intro w' hS; skip; first | (go_simp; done) | (go_simp; rfl))); (try simp only [Act.put, List.setIfInBounds_toArray, List.set_cons_zero, List.set_cons_succ])
  refine tree_q (v := ?v1_8) (some 16) rfl rfl rfl ?q1_8 ?h1_8; (case q1_8 => (intro w' hS; skip; first | (go_simp; done) | (go_simp; rfl))); (try simp only [Act.put, List.setIfInBounds_toArray, List.set_cons_zero, List.set_cons_succ])
  refine tree_q (v := ?v1_7) (some 17) rfl rfl rfl ?q1_7 ?h1_7; (case q1_7 => (intro w' hS; skip; first | (go_simp; done) | (go_simp; rfl))); (try simp only [Act.put, List.setIfInBounds_toArray, List.set_cons_zero, List.set_cons_succ])
  refine tree_b rfl rfl ?b1_3 ?nb1_3
  case' b1_3 =>   -- 4: makeSlice 75 t14 t14
    go_must (refine ev_makeSlice rfl rfl n rfl rfl Tryd.underlying75 info80b rfl (by decide) (by omega) (by omega) ?_; intro gk wk hgk hlk hbk hkk)
    (try simp only [Act.put, List.setIfInBounds_toArray, List.set_cons_zero, List.set_cons_succ])
    refine wpList_nil ⟨trivial, ?_⟩
    have zk := hkk.size
    have Hkc := Lib.hid (Hkc.out.trans hkk (fun _ _ h => h))
    have Hbk := Lib.hid hbk
    (try have Hbn := Lib.hid (hkk.blk Hbn.out id))
    clear hkk hbk
    refine tree_e rfl rfl ?_   -- 7: makeSlice 76 t17 t17
    go_must (refine ev_makeSlice rfl rfl n rfl rfl Tryd.underlying76 info4b rfl (by decide) (by omega) (by omega) ?_; intro gn wn hgn hln hbn hkn)
    (try simp only [Act.put, List.setIfInBounds_toArray, List.set_cons_zero, List.set_cons_succ])
    refine wpList_nil ⟨trivial, ?_⟩
    have zn := hkn.size
    have Hkc := Lib.hid (Hkc.out.trans hkn (fun _ _ h => h))
    have Hbn := Lib.hid hbn
    (try have Hbk := Lib.hid (hkn.blk Hbk.out id))
    clear hkn hbn
    refine tree_q (v := ?v1_2) (some 19) rfl rfl rfl ?q1_2 ?h1_2; (case q1_2 => (intro w' hS; skip; first | (go_simp; done) | (go_simp; rfl))); (try simp only [Act.put, List.setIfInBounds_toArray, List.set_cons_zero, List.set_cons_succ])
    refine tree_e rfl rfl ?_   -- 9: box 78 t19
    go_must (refine ev_box (cs := #[.slice rA n rc, .slice vA E.inp.length vc, .slice (some ⟨gk, 0, none⟩) n n, .slice (some ⟨gn, 0, none⟩) n n]) rfl rfl rfl ?_; intro gp wp hgp hlp hbp hkp)
    (try simp only [Act.put, List.setIfInBounds_toArray, List.set_cons_zero, List.set_cons_succ])
    refine wpList_nil ⟨trivial, ?_⟩
    have zp := hkp.size
    have Hkc := Lib.hid (Hkc.out.trans hkp (fun _ _ h => h))
    have Hbp := Lib.hid hbp
    have Hbk := Lib.hid (hkp.blk Hbk.out id)
    have Hbn := Lib.hid (hkp.blk Hbn.out id)
    clear hkp hbp
    refine tree_q (v := ?v1_1) (some 9) rfl rfl rfl ?q1_1 ?h1_1; (case q1_1 => (intro w' hS; skip; first | (go_simp; done) | (go_simp; rfl))); (try simp only [Act.put, List.setIfInBounds_toArray, List.set_cons_zero, List.set_cons_succ])
    refine tree_nil ?_
  case' nb1_3 =>
    refine tree_e rfl rfl ?b1_6
    case' b1_6 =>   -- 7: makeSlice 76 t17 t17
      go_must (refine ev_makeSlice rfl rfl n rfl rfl Tryd.underlying76 info4b rfl (by decide) (by omega) (by omega) ?_; intro gn wn hgn hln hbn hkn)
      (try simp only [Act.put, List.setIfInBounds_toArray, List.set_cons_zero, List.set_cons_succ])
      refine wpList_nil ⟨trivial, ?_⟩
      have zn := hkn.size
      have Hkc := Lib.hid (Hkc.out.trans hkn (fun _ _ h => h))
      have Hbn := Lib.hid hbn
      (try have Hbk := Lib.hid (hkn.blk Hbk.out id))
      clear hkn hbn
      refine tree_e rfl rfl ?_   -- 4: makeSlice 75 t14 t14
      go_must (refine ev_makeSlice rfl rfl n rfl rfl Tryd.underlying75 info80b rfl (by decide) (by omega) (by omega) ?_; intro gk wk hgk hlk hbk hkk)
      (try simp only [Act.put, List.setIfInBounds_toArray, List.set_cons_zero, List.set_cons_succ])
      refine wpList_nil ⟨trivial, ?_⟩
      have zk := hkk.size
      have Hkc := Lib.hid (Hkc.out.trans hkk (fun _ _ h => h))
      have Hbk := Lib.hid hbk
      (try have Hbn := Lib.hid (hkk.blk Hbn.out id))
      clear hkk hbk
      refine tree_q (v := ?v1_5) (some 19) rfl rfl rfl ?q1_5 ?h1_5; (case q1_5 => (intro w' hS; skip; first | (go_simp; done) | (go_simp; rfl))); (try simp only [Act.put, List.setIfInBounds_toArray, List.set_cons_zero, List.set_cons_succ])
      refine tree_e rfl rfl ?_   -- 9: box 78 t19
      go_must (refine ev_box (cs := #[.slice rA n rc, .slice vA E.inp.length vc, .slice (some ⟨gk, 0, none⟩) n n, .slice (some ⟨gn, 0, none⟩) n n]) rfl rfl rfl ?_; intro gp wp hgp hlp hbp hkp)
      (try simp only [Act.put, List.setIfInBounds_toArray, List.set_cons_zero, List.set_cons_succ])
      refine wpList_nil ⟨trivial, ?_⟩
      have zp := hkp.size
      have Hkc := Lib.hid (Hkc.out.trans hkp (fun _ _ h => h))
      have Hbp := Lib.hid hbp
      have Hbk := Lib.hid (hkp.blk Hbk.out id)
      have Hbn := Lib.hid (hkp.blk Hbn.out id)
      clear hkp hbp
      refine tree_q (v := ?v1_4) (some 9) rfl rfl rfl ?q1_4 ?h1_4; (case q1_4 => (intro w' hS; skip; first | (go_simp; done) | (go_simp; rfl))); (try simp only [Act.put, List.setIfInBounds_toArray, List.set_cons_zero, List.set_cons_succ])
      refine tree_nil ?_
  · skip
    have hne := Hn.out
    subst hne
    have zd : w.drew.heap.size = w.heap.size := rfl
    have Hstart := plain_start Hbp.out (HR.out.keep (X' := fun b => X b ∧ b < w.heap.size) Hkc.out (fun _ _ _ => id) (fun _ _ h => h)) (HV.out.keep (X' := fun b => Y b ∧ b < w.heap.size) Hkc.out (fun _ _ _ => id) (fun _ _ h => h)) Hbk.out Hbn.out (fun h => by have := h.2; omega) (fun h => by have := h.2; omega) (fun h => by have := h.2; omega) (fun h => by have := h.2; omega)
    have hrun := Hask.out _ _ _ _ _ _ _ q Hstart (KB_none _) Hq.out
    rw [Hra.out] at hrun
    have Hrun := Lib.hid hrun
    obtain ⟨i80, hi80, hs80⟩ := info80
    have HI := Lib.hid (And.intro hi80 hs80)
    have Hs := Lib.hid (show w.heap.size ≤ gk ∧ w.heap.size ≤ gn ∧ w.heap.size ≤ wp.heap.size by omega)
    clear hrun Hstart hi80 hs80
    go_wp2_with (first
      | (go_at_call 35; go_must (refine Hrun.out.mono ?_; rintro e w2 ⟨⟨b2, rfl⟩, hk2, -⟩); (try simp only [Act.put, List.setIfInBounds_toArray, List.set_cons_zero, List.set_cons_succ]))
      | ((with_reducible refine at_dst (N := 10) rfl ?_); go_must (refine ev_alloc rfl rfl zero80 rfl ?_; intro g3 w3 hg3 hl3 hb3 hk3); have Hb3 := Lib.hid hb3; clear hb3; (try simp only [Act.put, List.setIfInBounds_toArray, List.set_cons_zero, List.set_cons_succ]))
      | ((with_reducible refine at_store (t := 80) rfl ?_); go_must (refine ev_store (cs' := #[.bool b2, .int .i64 an, .int .i64 ac, .int .i64 ae]) rfl rfl rfl rfl rfl rfl HI.out.1 HI.out.2 rfl Hb3.out (Nat.le_of_ble_eq_true rfl) rfl ?_; intro w4 hb4 hk4); have f1 := (blk_cell hb4 1).trans rfl; have f2 := (blk_cell hb4 2).trans rfl; have f3 := (blk_cell hb4 3).trans rfl; clear hb4; (try simp only [Act.put, List.setIfInBounds_toArray, List.set_cons_zero, List.set_cons_succ])))
    have hk14 : Keeps Nob w w4 := ((Hkc.out.trans hk2 (fun i hi hm => by have h1 := Hs.out; rcases hm with hm | hm <;> omega)).trans hk3 (fun _ _ h => h)).own hk4 (by have h1 := Hs.out; have h2 := hk2.size; omega)
    refine wp_region_perm [(0, true), (1, true), (2, true), (3, true), (4, true), (5, true), (6, true), (7, true), (8, true)] (fun w' => w'.cell? ⟨g3, 1, none⟩ = some (.int .i64 an) ∧ w'.cell? ⟨g3, 2, none⟩ = some (.int .i64 ac) ∧ w'.cell? ⟨g3, 3, none⟩ = some (.int .i64 ae)) rfl (by kernel_rfl) (by kernel_rfl) (by decide) (fun c a d v w h => by cases d <;> exact h) ⟨f1, f2, f3⟩ ?_
    refine perm_q (v := ?v2_0) (some 24) rfl rfl rfl ?q2_0 ?h2_0; (case q2_0 => (intro w' hS; obtain ⟨s1, s2, s3⟩ := hS; first | (go_simp; done) | (go_simp; rfl))); (try simp only [Act.put, List.setIfInBounds_toArray, List.set_cons_zero, List.set_cons_succ])
    refine perm_q (v := ?v2_1) (some 25) rfl rfl rfl ?q2_1 ?h2_1; (case q2_1 => (intro w' hS; obtain ⟨s1, s2, s3⟩ := hS; first | (go_simp; done) | (go_simp; rfl))); (try simp only [Act.put, List.setIfInBounds_toArray, List.set_cons_zero, List.set_cons_succ])
    refine perm_q (v := ?v2_2) (some 26) rfl rfl rfl ?q2_2 ?h2_2; (case q2_2 => (intro w' hS; obtain ⟨s1, s2, s3⟩ := hS; first | (go_simp; done) | (go_simp; rfl))); (try simp only [Act.put, List.setIfInBounds_toArray, List.set_cons_zero, List.set_cons_succ])
    refine perm_q (v := ?v2_3) (some 27) rfl rfl rfl ?q2_3 ?h2_3; (case q2_3 => (intro w' hS; obtain ⟨s1, s2, s3⟩ := hS; first | (go_simp; done) | (go_simp; rfl))); (try simp only [Act.put, List.setIfInBounds_toArray, List.set_cons_zero, List.set_cons_succ])
    refine perm_q (v := ?v2_4) (some 28) rfl rfl rfl ?q2_4 ?h2_4; (case q2_4 => (intro w' hS; obtain ⟨s1, s2, s3⟩ := hS; first | (go_simp; done) | (go_simp; rfl))); (try simp only [Act.put, List.setIfInBounds_toArray, List.set_cons_zero, List.set_cons_succ])
    refine perm_q (v := ?v2_5) (some 29) rfl rfl rfl ?q2_5 ?h2_5; (case q2_5 => (intro w' hS; obtain ⟨s1, s2, s3⟩ := hS; first | (go_simp; done) | (go_simp; rfl))); (try simp only [Act.put, List.setIfInBounds_toArray, List.set_cons_zero, List.set_cons_succ])
    refine perm_q (v := ?v2_6) (some 6) rfl rfl rfl ?q2_6 ?h2_6; (case q2_6 => (intro w' hS; obtain ⟨s1, s2, s3⟩ := hS; first | (go_simp; done) | (go_simp; rfl))); (try simp only [Act.put, List.setIfInBounds_toArray, List.set_cons_zero, List.set_cons_succ])
    refine perm_q (v := ?v2_7) (some 7) rfl rfl rfl ?q2_7 ?h2_7; (case q2_7 => (intro w' hS; obtain ⟨s1, s2, s3⟩ := hS; first | (go_simp; done) | (go_simp; rfl))); (try simp only [Act.put, List.setIfInBounds_toArray, List.set_cons_zero, List.set_cons_succ])
    refine perm_q (v := ?v2_8) (some 8) rfl rfl rfl ?q2_8 ?h2_8; (case q2_8 => (intro w' hS; obtain ⟨s1, s2, s3⟩ := hS; first | (go_simp; done) | (go_simp; rfl))); (try simp only [Act.put, List.setIfInBounds_toArray, List.set_cons_zero, List.set_cons_succ])
    refine perm_nil ?_
    go_wp2
    go_ret3
    exact ⟨rfl, hk14.drew⟩
  · skip
    have hne := Hn.out
    subst hne
    have zd : w.drew.heap.size = w.heap.size := rfl
    have Hstart := plain_start Hbp.out (HR.out.keep (X' := fun b => X b ∧ b < w.heap.size) Hkc.out (fun _ _ _ => id) (fun _ _ h => h)) (HV.out.keep (X' := fun b => Y b ∧ b < w.heap.size) Hkc.out (fun _ _ _ => id) (fun _ _ h => h)) Hbk.out Hbn.out (fun h => by have := h.2; omega) (fun h => by have := h.2; omega) (fun h => by have := h.2; omega) (fun h => by have := h.2; omega)
    have hrun := Hask.out _ _ _ _ _ _ _ q Hstart (KB_none _) Hq.out
    rw [Hra.out] at hrun
    have Hrun := Lib.hid hrun
    obtain ⟨i80, hi80, hs80⟩ := info80
    have HI := Lib.hid (And.intro hi80 hs80)
    have Hs := Lib.hid (show w.heap.size ≤ gk ∧ w.heap.size ≤ gn ∧ w.heap.size ≤ wp.heap.size by omega)
    clear hrun Hstart hi80 hs80
    go_wp2_with (first
      | (go_at_call 35; go_must (refine Hrun.out.mono ?_; rintro e w2 ⟨⟨b2, rfl⟩, hk2, -⟩); (try simp only [Act.put, List.setIfInBounds_toArray, List.set_cons_zero, List.set_cons_succ]))
      | ((with_reducible refine at_dst (N := 10) rfl ?_); go_must (refine ev_alloc rfl rfl zero80 rfl ?_; intro g3 w3 hg3 hl3 hb3 hk3); have Hb3 := Lib.hid hb3; clear hb3; (try simp only [Act.put, List.setIfInBounds_toArray, List.set_cons_zero, List.set_cons_succ]))
      | ((with_reducible refine at_store (t := 80) rfl ?_); go_must (refine ev_store (cs' := #[.bool b2, .int .i64 an, .int .i64 ac, .int .i64 ae]) rfl rfl rfl rfl rfl rfl HI.out.1 HI.out.2 rfl Hb3.out (Nat.le_of_ble_eq_true rfl) rfl ?_; intro w4 hb4 hk4); have f1 := (blk_cell hb4 1).trans rfl; have f2 := (blk_cell hb4 2).trans rfl; have f3 := (blk_cell hb4 3).trans rfl; clear hb4; (try simp only [Act.put, List.setIfInBounds_toArray, List.set_cons_zero, List.set_cons_succ])))
    have hk14 : Keeps Nob w w4 := ((Hkc.out.trans hk2 (fun i hi hm => by have h1 := Hs.out; rcases hm with hm | hm <;> omega)).trans hk3 (fun _ _ h => h)).own hk4 (by have h1 := Hs.out; have h2 := hk2.size; omega)
    refine wp_region_perm [(0, true), (1, true), (2, true), (3, true), (4, true), (5, true), (6, true), (7, true), (8, true)] (fun w' => w'.cell? ⟨g3, 1, none⟩ = some (.int .i64 an) ∧ w'.cell? ⟨g3, 2, none⟩ = some (.int .i64 ac) ∧ w'.cell? ⟨g3, 3, none⟩ = some (.int .i64 ae)) rfl (by kernel_rfl) (by kernel_rfl) (by decide) (fun c a d v w h => by cases d <;> exact h) ⟨f1, f2, f3⟩ ?_
    refine perm_q (v := ?v3_0) (some 24) rfl rfl rfl ?q3_0 ?h3_0; (case q3_0 => (intro w' hS; obtain ⟨s1, s2, s3⟩ := hS; first | (go_simp; done) | (go_simp; rfl))); (try simp only [Act.put, List.setIfInBounds_toArray, List.set_cons_zero, List.set_cons_succ])
    refine perm_q (v := ?v3_1) (some 25) rfl rfl rfl ?q3_1 ?h3_1; (case q3_1 => (intro w' hS; obtain ⟨s1, s2, s3⟩ := hS; first | (go_simp; done) | (go_simp; rfl))); (try simp only [Act.put, List.setIfInBounds_toArray, List.set_cons_zero, List.set_cons_succ])
    refine perm_q (v := ?v3_2) (some 26) rfl rfl rfl ?q3_2 ?h3_2; (case q3_2 => (intro w' hS; obtain ⟨s1, s2, s3⟩ := hS; first | (go_simp; done) | (go_simp; rfl))); (try simp only [Act.put, List.setIfInBounds_toArray, List.set_cons_zero, List.set_cons_succ])
    refine perm_q (v := ?v3_3) (some 27) rfl rfl rfl ?q3_3 ?h3_3; (case q3_3 => (intro w' hS; obtain ⟨s1, s2, s3⟩ := hS; first | (go_simp; done) | (go_simp; rfl))); (try simp only [Act.put, List.setIfInBounds_toArray, List.set_cons_zero, List.set_cons_succ])
    refine perm_q (v := ?v3_4) (some 28) rfl rfl rfl ?q3_4 ?h3_4; (case q3_4 => (intro w' hS; obtain ⟨s1, s2, s3⟩ := hS; first | (go_simp; done) | (go_simp; rfl))); (try simp only [Act.put, List.setIfInBounds_toArray, List.set_cons_zero, List.set_cons_succ])
    refine perm_q (v := ?v3_5) (some 29) rfl rfl rfl ?q3_5 ?h3_5; (case q3_5 => (intro w' hS; obtain ⟨s1, s2, s3⟩ := hS; first | (go_simp; done) | (go_simp; rfl))); (try simp only [Act.put, List.setIfInBounds_toArray, List.set_cons_zero, List.set_cons_succ])
    refine perm_q (v := ?v3_6) (some 6) rfl rfl rfl ?q3_6 ?h3_6; (case q3_6 => (intro w' hS; obtain ⟨s1, s2, s3⟩ := hS; first | (go_simp; done) | (go_simp; rfl))); (try simp only [Act.put, List.setIfInBounds_toArray, List.set_cons_zero, List.set_cons_succ])
    refine perm_q (v := ?v3_7) (some 7) rfl rfl rfl ?q3_7 ?h3_7; (case q3_7 => (intro w' hS; obtain ⟨s1, s2, s3⟩ := hS; first | (go_simp; done) | (go_simp; rfl))); (try simp only [Act.put, List.setIfInBounds_toArray, List.set_cons_zero, List.set_cons_succ])
    refine perm_q (v := ?v3_8) (some 8) rfl rfl rfl ?q3_8 ?h3_8; (case q3_8 => (intro w' hS; obtain ⟨s1, s2, s3⟩ := hS; first | (go_simp; done) | (go_simp; rfl))); (try simp only [Act.put, List.setIfInBounds_toArray, List.set_cons_zero, List.set_cons_succ])
    refine perm_nil ?_
    go_wp2
    go_ret3
    exact ⟨rfl, hk14.drew⟩
end Go.Proofs.QW
