/-
  What the looks at an engine of package query come to (Kept, found, When). Condition: the engine lies in memory as Q1 says.
-/
import Derived.Test.YtohpkolkagddiaaDoorQ2
import Derived.Test.YtohpkolkagddiaaDoorK3
namespace Go.Proofs.QW
open Go.RowKit Go.Proofs.KL Go.Proofs.QM
set_option maxRecDepth 100000

def Z85 : Value := .agg #[.int .i64 0, .slice none 0 0, .int .i64 0, .int .i64 0]
theorem zero85 : (Tryd.prog.info? 85).map (·.zero) = some (some Z85) := by kernel_rfl
theorem info85 : ∃ i, Tryd.prog.info? 85 = some i ∧ i.size = 4 := by
  have h : (Tryd.prog.info? 85).map (·.size) = some 4 := by kernel_rfl
  obtain ⟨i, hi, hs⟩ := Option.map_eq_some_iff.1 h
  exact ⟨i, hi, hs⟩

/-- The engine as it lies: its block's four cells. -/
structure EngAt (w : World) (X : Nat → Prop) (eb ib mb : Nat) (E : Env) (ans : List (Option KeptR)) : Prop where
  blk : ∃ rv c, w.heap[eb]? = some (.cells #[rv, .slice (some ⟨ib, 0, none⟩) E.rules.length c, .map (some mb), .int .i64 E.rev] 63 (0, 0)) ∧ RulesX w X rv E.rules
  inp : InpX w ib E.rules.length E.inp E.inpCh
  ans : AnsX w X mb E.rules.length ans
  xe : ¬ X eb
  xi : ¬ X ib
  xm : ¬ X mb
def keptVal (E : Env) (ans : List (Option KeptR)) (q : Int) : Int × Bool :=
  if isErr E.rules.length q ≠ 0 then (0, false)
  else if (E.rule q).kind = 1 then (E.inp.getD q.toNat 0, true)
  else match ans.getD q.toNat none with
    | some k => (k.value, true)
    | none => (0, false)
theorem getD_rule (E : Env) (i : Nat) : E.rules.getD i default = E.rule (i : Int) := by simp [Env.rule]

def k0 : KeptR := ⟨0, [], 0, 0⟩
theorem nil_ints (w : World) (X : Nat → Prop) : IntsX w X (.slice none 0 0) [] := ⟨none, 0, rfl, Nat.le_refl _, fun i hi => absurd hi (by simp)⟩
theorem AnsX.get {w : World} {X : Nat → Prop} {n : Nat} {ans : List (Option KeptR)} {es : Array MapEntry} {q : Int} (h0 : 0 ≤ q) (h1 : q < n)
    (hx : ∀ q : Int, 0 ≤ q → q < n → match ans.getD q.toNat none with
      | some k => ∃ v, mlook es.toList q = some v ∧ KeptX w X v k
      | none => mlook es.toList q = none) :
    ∃ u, (mlook es.toList q).getD Z85 = .agg #[.int .i64 ((ans.getD q.toNat none).getD k0).value, u, .int .i64 ((ans.getD q.toNat none).getD k0).checked, .int .i64 ((ans.getD q.toNat none).getD k0).changed] ∧
      IntsX w X u ((ans.getD q.toNat none).getD k0).asked ∧ (mlook es.toList q).isSome = (ans.getD q.toNat none).isSome := by
  have := hx q h0 h1
  cases ho : ans.getD q.toNat none with
  | none =>
    rw [ho] at this
    simp only at this
    rw [this]
    exact ⟨.slice none 0 0, rfl, nil_ints _ _, rfl⟩
  | some k =>
    rw [ho] at this
    obtain ⟨v, hv, u, hu, hi⟩ := this
    rw [hv]
    exact ⟨u, hu, hi, rfl⟩
theorem Kept_any (X : Nat → Prop) (eb ib mb : Nat) (E : Env) (ans : List (Option KeptR)) (q : Int) (w : World) (h : EngAt w X eb ib mb E ans) (hl : E.rules.length ≤ 200) :
    Calls Tryd.prog 19 #[.pointer (some ⟨eb, 0, none⟩), .int .i64 q] w fun e w' => e = .returned (.tuple #[.int .i64 (keptVal E ans q).1, .bool (keptVal E ans q).2]) ∧ Keeps Nob w w' := by
  obtain ⟨⟨rv, c, hb, hr⟩, ⟨cs, hib, hinp⟩, ⟨es, cl, hmb, hkey, hout, hans⟩, _, _, _⟩ := h
  have hr0 := hr
  obtain ⟨A, cc, rfl, hcc, hrx⟩ := hr0
  have e0 := blk_cell hb 0
  have e1 := blk_cell hb 1
  have e2 := blk_cell hb 2
  simp only [List.getElem?_toArray, List.getElem?_cons_zero, List.getElem?_cons_succ] at e0 e1 e2
  have Hr := Lib.hid hr
  have Hmb := Lib.hid hmb
  have Hinp := Lib.hid hinp
  have Hib := Lib.hid hib
  have Hkey := Lib.hid hkey
  have Hans := Lib.hid hans
  clear hr hb hrx hmb hinp hib hkey hans hout
  unfold keptVal
  by_cases hq : q < 0 ∨ (E.rules.length : Int) ≤ q
  · have hE : isErr E.rules.length q = 5 := if_pos hq
    rw [if_pos (by rw [hE]; decide)]
    go_enter Tryd.func19, Tryd.ntmps19
    go_wp2_with (go_at_call 38; refine (is_some _ _ _ _ _ _ _ (by assumption) (by assumption) hl).mono ?_; rintro e w' ⟨rfl, rfl⟩; rw [hE])
    go_ret2
    exact ⟨rfl, Keeps.refl _ _⟩
  · have hE : isErr E.rules.length q = 0 := if_neg hq
    have hq0 : 0 ≤ q := by omega
    have hq1 : q < E.rules.length := by omega
    obtain ⟨i, rfl⟩ := Int.eq_ofNat_of_zero_le hq0
    rw [if_neg (by rw [hE]; decide)]
    have hin : (E.rules.getD (i : Int).toNat default).kind = (E.rule i).kind := by simp [Env.rule]
    by_cases hk : (E.rule (i : Int)).kind = 1
    · rw [if_pos hk]
      have hkb : ((E.rule (i : Int)).kind == 1) = true := by rw [hk]; rfl
      obtain ⟨c0, _, _, _⟩ := Hinp.out i (by omega)
      have d0 := blk_cell Hib.out (i * 4)
      rw [c0] at d0
      have hi' : i < E.rules.length := by omega
      simp only [Int.toNat_natCast]
      go_enter Tryd.func19, Tryd.ntmps19
      go_wp2_with (first | (go_at_call 38; refine (is_some _ _ _ _ _ _ _ (by assumption) (by assumption) hl).mono ?_; rintro e w' ⟨rfl, rfl⟩; rw [hE]) | (go_at_call 37; refine (input_any _ _ E.rules X _ _ (by assumption) Hr.out hq0 hq1 hl).mono ?_; rintro e w' ⟨rfl, rfl⟩; rw [hin, hkb]))
      go_ret2
      exact ⟨rfl, Keeps.refl _ _⟩
    · rw [if_neg hk]
      have hkb : ((E.rule (i : Int)).kind == 1) = false := by simpa using hk
      obtain ⟨i85, hi85, hs85⟩ := info85
      obtain ⟨u, hv, ⟨uA, uc, rfl, _, _⟩, hsm⟩ := AnsX.get hq0 hq1 Hans.out
      have hfin : (match ans.getD (i : Int).toNat none with | some k => (k.value, true) | none => (0, false)) = (((ans.getD (i : Int).toNat none).getD k0).value, (ans.getD (i : Int).toNat none).isSome) := by
        cases ans.getD (i : Int).toNat none <;> rfl
      rw [hfin]
      generalize (ans.getD (i : Int).toNat none).getD k0 = k at *
      generalize k.asked.length = ul at *
      generalize (ans.getD (i : Int).toNat none).isSome = sm at *
      have Hv := Lib.hid hv
      have Hsm := Lib.hid hsm
      have Hs85 := Lib.hid hs85
      have Hi85 := Lib.hid hi85
      clear hv hsm hfin hs85 hi85
      go_enter Tryd.func19, Tryd.ntmps19
      go_wp2_with (first
        | (go_at_call 38; refine (is_some _ _ _ _ _ _ _ (by assumption) (by assumption) hl).mono ?_; rintro e w' ⟨rfl, rfl⟩; rw [hE])
        | (go_at_call 37; refine (input_any _ _ E.rules X _ _ (by assumption) Hr.out hq0 hq1 hl).mono ?_; rintro e w' ⟨rfl, rfl⟩; rw [hin, hkb])
        | ((with_reducible refine at_dst (N := 29) rfl ?_); refine ev_lookup_ok rfl rfl Tryd.underlying61 Tryd.underlying3 zero85 rfl rfl Hmb.out Hkey.out ?_; rw [Hv.out, Hsm.out]; (try simp only [Act.put, List.setIfInBounds_toArray, List.set_cons_zero, List.set_cons_succ]))
        | ((with_reducible refine at_dst (N := 6) rfl ?_); refine ev_alloc rfl rfl zero85 rfl ?_; intro g1 w1 hg1 hl1 hb1 hk1; have Hb1 := Lib.hid hb1; clear hb1; (try simp only [Act.put, List.setIfInBounds_toArray, List.set_cons_zero, List.set_cons_succ]))
        | ((with_reducible refine at_store (t := 85) rfl ?_); go_must (refine ev_store (cs' := #[.int .i64 k.value, .slice uA ul uc, .int .i64 k.checked, .int .i64 k.changed]) rfl rfl rfl rfl rfl rfl Hi85.out Hs85.out rfl Hb1.out (Nat.le_of_ble_eq_true rfl) rfl ?_); intro w2 hb2 hk2; have f0 := blk_cell hb2 0; have f1 := blk_cell hb2 1; have f2 := blk_cell hb2 2; have f3 := blk_cell hb2 3; have Hb2 := Lib.hid hb2; clear hb2))
      go_ret2
      exact ⟨rfl, (hk1.trans hk2 (fun i hi e => by omega))⟩
end Go.Proofs.QW
