/-
  The closed example (alive), in memory: true. Condition: the table of kinds lies as it is laid.
-/
import Derived.Test.YtohpkolkagddiaaDoorQ16
namespace Go.Proofs.QW
open Go.RowKit Go.Proofs.KL Go.Proofs.QM
set_option maxRecDepth 100000
set_option linter.unusedSimpArgs false
set_option linter.unusedVariables false

def exE (a b ca cb rev : Int) : Env := ⟨exampleR, [a, b, 0, 0], [ca, cb, 0, 0], rev, 9⟩
theorem example_check : check exampleR = (0, 0) := by decide
theorem exE_ok {a b ca cb rev : Int} (ha : 0 ≤ a ∧ a ≤ 1048576) (hb : 0 ≤ b ∧ b ≤ 1048576) (hr : 0 ≤ rev ∧ rev ≤ 1000) : EnvOk (exE a b ca cb rev) := by
  obtain ⟨h200, hrok⟩ := check_ok (rs := exampleR) (by rw [example_check])
  refine ⟨h200, hrok, rfl, rfl, fun q h0 h1 _ => ?_, hr.1, by have := hr.2; show rev ≤ _; omega, by show (0 : Int) ≤ 9; omega, by show (9 : Int) ≤ _; omega⟩
  have h1' : q < 4 := h1
  obtain ⟨i, rfl⟩ := Int.eq_ofNat_of_zero_le h0
  have hi : i < 4 := by omega
  match i, hi with
  | 0, _ => exact ha
  | 1, _ => exact hb
  | 2, _ => exact ⟨Int.le_refl 0, by show (0 : Int) ≤ 1048576; omega⟩
  | 3, _ => exact ⟨Int.le_refl 0, by show (0 : Int) ≤ 1048576; omega⟩
def ans1 : List (Option KeptR) := [none, none, some ⟨4, [0, 1], 1, 1⟩, some ⟨5, [2], 1, 1⟩]
def ans2 : List (Option KeptR) := [none, none, some ⟨4, [0, 1], 2, 1⟩, some ⟨5, [2], 2, 1⟩]
theorem ex_set1 : setF (exE 0 0 0 0 0) 0 4 = (exE 4 0 1 0 1, 0) := by rfl
theorem ex_set2 : setF (exE 4 0 1 0 1) 1 10 = (exE 4 10 1 2 2, 0) := by rfl
theorem ex_ask1 : askF (exE 4 0 1 0 1) (exampleR.length + 1) [] ⟨List.replicate exampleR.length none, []⟩ 3 = (⟨ans1, [2, 3]⟩, .ok (5, 1)) := by rfl
theorem ex_ask2 : askF (exE 4 10 1 2 2) (exampleR.length + 1) [] ⟨ans1, []⟩ 3 = (⟨ans2, [2]⟩, .ok (5, 1)) := by rfl
theorem ex_plain : plainF exampleR [4, 10, 0, 0] 3 = (5, 0) := by rfl
theorem PInv.again {E E' : Env} {on : List Int} {s : PS} (h : PInv E on s) (hr : E'.rules = E.rules) (hm : 0 ≤ E'.most) : PInv E' [] ⟨s.ans, []⟩ := by
  have hq : ∀ q, InQ E' q ↔ InQ E q := fun q => by unfold InQ; rw [hr]
  exact ⟨by rw [hr]; exact h.alen, fun q k h1 h2 => (fun hk => ⟨hk.v0, hk.v1, fun a ha => (hq a).2 (hk.asked a ha), hk.alen⟩) (h.kok q k ((hq q).1 h1) h2), List.nodup_nil, fun q h => (by cases h), hm, fun q h => (by cases h), List.nodup_nil, fun q h => (by cases h)⟩
set_option maxHeartbeats 4000000 in
/-- ALIVE. -/
theorem alive_any (w : World) (ht : Tab w) : Calls Tryd.prog 14 #[] w fun e w' => e = .returned (.bool true) ∧ Keeps Nob w w' := by
  have l0 : 0 < w.heap.size := World.block_lt_of_cell? _ _ (ht 1 (by omega) (by omega)).1
  have HT := Lib.hid ht
  have hpn : ∀ (n : Nat) (w : World), (binOp .eql 35 (.pointer (some ⟨n, 0, none⟩)) (.pointer none)).run Tryd.prog w = .ok (.bool false) w := fun _ _ => by kernel_rfl
  clear ht
  go_enter Tryd.func14, Tryd.ntmps14
  go_wp2_with (first
    | (go_at_call 36; go_must (refine (example_any w).mono ?_; rintro e w1 ⟨rv, rfl, hk1, hr1⟩))
    | (go_at_call 23; go_must (refine (New_any exampleR w1 _ rv hr1 (fun _ => HT.out.keep hk1 id)).mono ?_; rintro e w2 ⟨hk2, -, hok⟩; obtain ⟨eb, ib, mb, Y, rfl, heng, hY, neb, nib, nmb⟩ := hok (by rw [example_check])); clear hok))
  have z1 := hk1.size
  have HK2 := Lib.hid (hk1.trans hk2 (fun _ _ h => h))
  have HY := Lib.hid hY
  have hl : eb < w2.heap.size ∧ ib < w2.heap.size ∧ mb < w2.heap.size := by
    obtain ⟨⟨_, _, h1, _⟩, ⟨_, h2, _⟩, ⟨_, _, h3, _⟩, _, _, _⟩ := heng 9
    exact ⟨blk_lt h1, blk_lt h2, blk_lt h3⟩
  obtain ⟨leb, lib, lmb⟩ := hl
  have hset := Lib.hid (Set_any (exE_ok (a := 0) (b := 0) (ca := 0) (cb := 0) (rev := 0) (by omega) (by omega) (by omega)) w2 Y eb ib mb _ 0 4 (heng 9))
  rw [ex_set1] at hset
  clear heng hY hr1 hk1 hk2
  go_wp2_with (go_at_call 29; go_must (refine hset.out.mono ?_; rintro e w3 ⟨rfl, hk3, he3⟩))
  have z2 := HK2.out.size
  have z3 := hk3.size
  have hE3 := exE_ok (a := 4) (b := 0) (ca := 1) (cb := 0) (rev := 1) (by omega) (by omega) (by omega)
  have hpi := PInv.fresh exampleR [4, 0, 0, 0] 9 (by omega)
  have hpi3 : PInv (exE 4 0 1 0 1) [] ⟨List.replicate exampleR.length none, []⟩ := PInv.again hpi rfl (by show (0 : Int) ≤ 9; omega)
  have hq3 : InQ (exE 4 0 1 0 1) 3 := ⟨by omega, by show (3 : Int) < 4; omega⟩
  have hgood := (askF_good hE3 (exampleR.length + 1) [] _ 3 hpi3 hq3).1
  have hask := Ask_any hE3 w3 Y eb ib mb _ 3 he3 (fun k hk => by have := HY.out k hk; omega) hpi3 hq3
  have hrule : (exE 4 0 1 0 1).rules.length = exampleR.length := rfl
  rw [hrule, ex_ask1] at hask
  rw [ex_ask1] at hgood
  clear hrule
  have hask : Hid (Calls Tryd.prog 18 #[.pointer (some ⟨eb, 0, none⟩), .int .i64 3, .int .i64 9] w3 (AskEnd w3 Y eb ib mb (exE 4 0 1 0 1) (⟨ans1, [2, 3]⟩, .ok (5, 1)))) := Lib.hid hask
  have HGood := Lib.hid hgood.inv
  have HK3 := Lib.hid (HK2.out.trans hk3 (fun i hi e => by rcases e with rfl | rfl <;> omega))
  clear hset hE3 hpi hpi3 hq3 hgood he3 hk3
  go_wp2_with (go_at_call 18; go_must (refine hask.out.mono ?_; rintro e w4 ⟨X4, wl, rfl, hx4, hxl4, hk4, he4, hown4, hfar4⟩; dsimp only at he4 hown4; obtain ⟨lA, lc, rfl⟩ := own_slice hown4))
  have z4 := hk4.size
  have Hown4 := Lib.hid hown4
  have Hfar4 := Lib.hid hfar4
  have Hxl4 := Lib.hid hxl4
  have HK4 := Lib.hid (HK3.out.trans hk4 (fun i hi e => by omega))
  have hset := Lib.hid (Set_any (exE_ok (a := 4) (b := 0) (ca := 1) (cb := 0) (rev := 1) (by omega) (by omega) (by omega)) w4 X4 eb ib mb _ 1 10 he4)
  rw [ex_set2] at hset
  clear hask he4 hk4 hx4 hxl4 hown4 hfar4
  go_wp2_with (go_at_call 29; go_must (refine hset.out.mono ?_; rintro e w5 ⟨rfl, hk5, he5⟩))
  have z5 := hk5.size
  have Hown5 := Lib.hid (ownsRow_keep Hown4.out hk5 (fun b hb e => by have := (Hfar4.out b hb).1; rcases e with rfl | rfl <;> omega))
  have HK5 := Lib.hid (HK4.out.trans hk5 (fun i hi e => by rcases e with rfl | rfl <;> omega))
  have hE5 := exE_ok (a := 4) (b := 10) (ca := 1) (cb := 2) (rev := 2) (by omega) (by omega) (by omega)
  have hpi5 : PInv (exE 4 10 1 2 2) [] ⟨ans1, []⟩ := PInv.again HGood.out rfl (by show (0 : Int) ≤ 9; omega)
  have hq5 : InQ (exE 4 10 1 2 2) 3 := ⟨by omega, by show (3 : Int) < 4; omega⟩
  have hask := Ask_any hE5 w5 X4 eb ib mb _ 3 he5 (fun k hk => by have := Hxl4.out k hk; omega) hpi5 hq5
  have hrule : (exE 4 10 1 2 2).rules.length = exampleR.length := rfl
  rw [hrule, ex_ask2] at hask
  have hask : Hid (Calls Tryd.prog 18 #[.pointer (some ⟨eb, 0, none⟩), .int .i64 3, .int .i64 9] w5 (AskEnd w5 X4 eb ib mb (exE 4 10 1 2 2) (⟨ans2, [2]⟩, .ok (5, 1)))) := Lib.hid hask
  clear hset hE5 hpi5 hq5 he5 hk5 hrule HGood
  go_wp2_with (go_at_call 18; go_must (refine hask.out.mono ?_; rintro e w6 ⟨X6, wl6, rfl, hx6, hxl6, hk6, he6, hown6, hfar6⟩; dsimp only at he6 hown6; obtain ⟨mA, mc, rfl⟩ := own_slice hown6))
  have z6 := hk6.size
  have Hown6 := Lib.hid hown6
  have He6 := Lib.hid he6
  have HK6 := Lib.hid (HK5.out.trans hk6 (fun i hi e => by omega))
  have Hl6 := Lib.hid (IntsX.own (xs := [2, 3]) (ownsRow_keep Hown5.out hk6 (fun b hb e => by have := (Hfar4.out b hb).1; omega)) (fun _ => True) (fun _ _ => trivial))
  have Hm6 := Lib.hid (IntsX.own (xs := [2]) Hown6.out (fun _ => True) (fun _ _ => trivial))
  clear hask he6 hk6 hx6 hxl6 hown6 hfar6
  go_wp2_with (first
    | (go_at_call 36; go_must (refine (example_any w6).mono ?_; rintro e w7 ⟨rv7, rfl, hk7, hr7⟩))
    | ((with_reducible refine at_dst (N := 44) rfl ?_); go_must (refine ev_slice (cs := #[.int .i64 4, .int .i64 10, .int .i64 0, .int .i64 0]) (t := 3) (n := 4) (c := 4) rfl (by first | (go_simp; done) | (go_simp; rfl)) ?_; intro g8 w8 hg8 hl8 hb8 hk8); have Hb8 := Lib.hid hb8; clear hb8; (try simp only [Act.put, List.setIfInBounds_toArray, List.set_cons_zero, List.set_cons_succ])))
  have HK8 := Lib.hid ((HK6.out.trans hk7 (fun _ _ h => h)).trans hk8 (fun _ _ h => h))
  have hk68 : Keeps Nob w6 w8 := hk7.trans hk8 (fun _ _ h => h)
  have hp := Plain_any exampleR [4, 10, 0, 0] 3 w8 _ (fun _ => True) rv7 (.slice (some ⟨g8, 0, none⟩) 4 4) (hr7.keep (X' := fun _ => True) hk8 (fun _ _ _ => id) (fun _ _ _ => trivial)) (IntsX.own (xs := [4, 10, 0, 0]) ⟨rfl, .inr ⟨g8, 4, _, rfl, Nat.zero_le _, Hb8.out, Nat.le_refl _, by unfold maxLen; omega, rfl, rfl⟩⟩ (fun _ => True) (fun _ _ => trivial)) (fun _ => HT.out.keep HK8.out id)
  rw [ex_plain] at hp
  have Hp := Lib.hid hp
  have He8 := Lib.hid (He6.out.keep hk68 id id id (fun _ _ _ => id) (fun _ _ => Iff.rfl))
  have Hl8 := Lib.hid (Hl6.out.keep (X' := fun _ => True) hk68 (fun _ _ _ => id) (fun _ _ h => h))
  have Hm8 := Lib.hid (Hm6.out.keep (X' := fun _ => True) hk68 (fun _ _ _ => id) (fun _ _ h => h))
  clear hp hk68 hk7 hk8 hr7
  go_wp2_with (go_at_call 15; go_must (refine Hp.out.mono ?_; rintro e w9 ⟨rfl, hk9⟩))
  have HK9 := Lib.hid (HK8.out.trans hk9 (fun _ _ h => h))
  have he9 := He8.out.keep hk9 id id id (fun _ _ _ => id) (fun _ _ => Iff.rfl)
  have hkept := Kept_any X6 eb ib mb _ _ 3 w9 he9 (by show 4 ≤ 200; omega)
  have hkv : keptVal (exE 4 10 1 2 2) ans2 3 = (5, true) := by rfl
  rw [hkv] at hkept
  have Hkept := Lib.hid hkept
  have Hl9 := Lib.hid (Hl8.out.keep (X' := fun _ => True) hk9 (fun _ _ _ => id) (fun _ _ h => h))
  have Hm9 := Lib.hid (Hm8.out.keep (X' := fun _ => True) hk9 (fun _ _ _ => id) (fun _ _ h => h))
  have He9 := Lib.hid he9
  clear he9 hkept hkv hk9
  go_wp2_with (go_at_call 19; go_must (refine Hkept.out.mono ?_; rintro e w10 ⟨rfl, hk10⟩); dsimp only)
  have HK10 := Lib.hid ((HK9.out.trans hk10 (fun _ _ h => h)).alloc (.cells #[.int .i64 2, .int .i64 3] 3 (0, 0)))
  have hka : Keeps Nob w9 (w10.alloc (.cells #[.int .i64 2, .int .i64 3] 3 (0, 0))) := hk10.alloc _
  have s1 := same_any [2, 3] [2, 3] (w10.alloc (.cells #[.int .i64 2, .int .i64 3] 3 (0, 0))) (fun _ => True) (fun _ => True) (.slice lA 2 lc) (.slice (some ⟨w10.heap.size, 0, none⟩) 2 2) (Hl9.out.keep (X' := fun _ => True) hka (fun _ _ _ => id) (fun _ _ h => h)) (IntsX.own (xs := [2, 3]) ⟨rfl, .inr ⟨w10.heap.size, 2, _, rfl, Nat.zero_le _, blk_new w10 _, Nat.le_refl _, by unfold maxLen; omega, rfl, rfl⟩⟩ (fun _ => True) (fun _ _ => trivial)) (by decide)
  rw [show decide (([2, 3] : List Int) = [2, 3]) = true from rfl] at s1
  have S1 := Lib.hid s1
  have Hm10 := Lib.hid (Hm9.out.keep (X' := fun _ => True) hka (fun _ _ _ => id) (fun _ _ h => h))
  have He10 := Lib.hid (He9.out.keep hka id id id (fun _ _ _ => id) (fun _ _ => Iff.rfl))
  clear s1 hka hk10
  refine S1.out.mono ?_
  rintro e w11 ⟨rfl, hk11⟩
  go_wp2_with fail
  have HK11 := Lib.hid ((HK10.out.trans hk11 (fun _ _ h => h)).alloc (.cells #[.int .i64 2] 3 (0, 0)))
  have hkb := hk11.alloc (.cells #[.int .i64 2] 3 (0, 0))
  have s2 := same_any [2] [2] (w11.alloc (.cells #[.int .i64 2] 3 (0, 0))) (fun _ => True) (fun _ => True) (.slice mA 1 mc) (.slice (some ⟨w11.heap.size, 0, none⟩) 1 1) (Hm10.out.keep (X' := fun _ => True) hkb (fun _ _ _ => id) (fun _ _ h => h)) (IntsX.own (xs := [2]) ⟨rfl, .inr ⟨w11.heap.size, 1, _, rfl, Nat.zero_le _, blk_new w11 _, Nat.le_refl _, by unfold maxLen; omega, rfl, rfl⟩⟩ (fun _ => True) (fun _ _ => trivial)) (by decide)
  rw [show decide (([2] : List Int) = [2]) = true from rfl] at s2
  have S2 := Lib.hid s2
  have He11 := Lib.hid (He10.out.keep hkb id id id (fun _ _ _ => id) (fun _ _ => Iff.rfl))
  clear s2 hkb hk11
  refine S2.out.mono ?_
  rintro e w12 ⟨rfl, hk12⟩
  have HK12 := Lib.hid (HK11.out.trans hk12 (fun _ _ h => h))
  have Hrv := Lib.hid (Revision_any (He11.out.keep hk12 id id id (fun _ _ _ => id) (fun _ _ => Iff.rfl)))
  clear hk12
  go_wp2_with (go_at_call 31; go_must (refine Hrv.out.mono ?_; rintro e w' ⟨rfl, rfl⟩))
  go_ret
  exact ⟨rfl, HK12.out⟩
end Go.Proofs.QW
