/-
  Rules in new memory (slices.Clone, own), and a new engine (New). No condition but that rules lie.
-/
import Derived.Test.YtohpkolkagddiaaDoorQ10
import Derived.Test.YtohpkolkagddiaaDoorQ11
namespace Go.Proofs.QW
open Go.RowKit Go.Proofs.KL Go.Proofs.QM
set_option maxRecDepth 100000
set_option linter.unusedSimpArgs false
set_option linter.unusedVariables false

theorem nil_slice (n c : Nat) (w : World) (A : Option Addr) : (binOp .eql 23 (.slice A n c) (.slice none 0 0)).run Tryd.prog w = .ok (.bool A.isNone) w := by
  cases A <;> kernel_rfl
set_option maxHeartbeats 1000000 in
/-- slices.Clone of ints. -/
theorem clone_any (xs : List Int) (w : World) (X : Nat → Prop) (sv : Value) (hx : IntsX w X sv xs) (hl : xs.length ≤ 1000000) :
    Calls Tryd.prog 42 #[sv] w fun e w' => ∃ v', e = .returned v' ∧ Keeps Nob w w' ∧ IntsX w' (fun k => w.heap.size ≤ k ∧ k < w'.heap.size) v' xs := by
  obtain ⟨A, c, rfl, hcc, hcell⟩ := id hx
  have hn := nil_slice
  cases A with
  | none =>
    have h0 : xs = [] := by
      cases xs with
      | nil => rfl
      | cons x r => obtain ⟨b, o, h, _⟩ := hcell 0 (by simp); cases h
    subst h0
    clear hx hcell
    go_enter Tryd.func42, Tryd.ntmps42
    go_wp2
    go_ret
    exact ⟨_, rfl, Keeps.refl _ _, nil_ints _ _⟩
  | some ad =>
    have Hx := Lib.hid hx
    have Hcell := Lib.hid hcell
    clear hx hcell
    go_enter Tryd.func42, Tryd.ntmps42
    go_wp2_with (first
      | ((with_reducible refine at_dst (N := 5) rfl ?_); go_must (refine ev_slice (cs := #[]) (t := 3) (n := 0) (c := 0) rfl (by first | (go_simp; done) | (go_simp; rfl)) ?_; intro g1 w1 hg1 hl1 hb1 hk1); have Hb1 := Lib.hid hb1; clear hb1; (try simp only [Act.put, List.setIfInBounds_toArray, List.set_cons_zero, List.set_cons_succ]))
      | ((with_reducible refine at_dst (N := 7) rfl ?_); go_must (refine ev_append (xs := []) (n := 0) (m := xs.length) (news := xs.map (Value.int .i64)) rfl rfl Tryd.underlying23 info3 rfl (by decide) (base := 0) rfl ⟨rfl, .inr ⟨g1, 0, #[], rfl, Nat.zero_le _, Hb1.out, Nat.le_refl _, Nat.zero_le _, rfl, rfl⟩⟩ rfl (by simp) (fun _ => ⟨ad, rfl, fun j u hj => ?_⟩) (by simp [Value.oneCell']) (by omega) (by decide) (Nat.zero_le _) ?_)))
    · have hlt : j < xs.length := by
        have := (List.getElem?_eq_some_iff.1 hj).1
        simpa using this
      obtain ⟨b, o, h, _, hc⟩ := Hcell.out j hlt
      injection h with h
      subst h
      have hu : u = .int .i64 (xs.getD j 0) := by
        rw [List.getElem?_map, List.getElem?_eq_getElem hlt] at hj
        simp at hj
        rw [← hj, List.getD_eq_getElem?_getD, List.getElem?_eq_getElem hlt]; rfl
      rw [hu]
      have hc1 := hk1.cell hc id
      by_cases h0 : j = 0
      · subst h0; simpa [Addr.add] using hc1
      · simpa [Addr.add, h0] using hc1
    · intro v' w2 hown hk hr _
      have Hown := Lib.hid hown
      have Hr := Lib.hid hr
      clear hown hr
      (try simp only [Act.put, List.setIfInBounds_toArray, List.set_cons_zero, List.set_cons_succ])
      go_wp2
      go_ret
      refine ⟨v', rfl, hk1.trans hk (fun i hi e => absurd hi (by simp [Value.ownBlock] at e; omega)), IntsX.own Hown.out _ (fun k hkk => ⟨?_, (own_lt Hown.out k hkk.symm).1⟩)⟩
      rcases Hr.out with h | ⟨b, h, hl⟩
      · rw [h] at hkk; simp [Value.ownBlock] at hkk; omega
      · rw [h] at hkk; injection hkk with hkk; have := hk1.size; omega

def flat (ps : List (QRule × Value)) : List Value := ps.flatMap fun p => [.int .i64 p.1.kind, .int .i64 p.1.n, p.2]
theorem flat_length : ∀ ps : List (QRule × Value), (flat ps).length = ps.length * 3
  | [] => rfl
  | p :: r => by
    show ([_, _, _] ++ flat r).length = _
    rw [List.length_append, flat_length r]; simp; omega
theorem flat_get : ∀ (ps : List (QRule × Value)) (i : Nat) (h : i < ps.length), (flat ps)[i * 3]? = some (.int .i64 ps[i].1.kind) ∧ (flat ps)[i * 3 + 1]? = some (.int .i64 ps[i].1.n) ∧ (flat ps)[i * 3 + 2]? = some ps[i].2
  | p :: r, 0, _ => ⟨rfl, rfl, rfl⟩
  | p :: r, i + 1, h => by
    have ih := flat_get r i (by simpa using h)
    have e : (i + 1) * 3 = i * 3 + 1 + 1 + 1 := by omega
    rw [e]
    exact ih
/-- Rules in a row of one's own. -/
theorem RulesX.own {w : World} {v : Value} {ps : List (QRule × Value)} {rs : List QRule} (h : w.ownsRow 0 72 3 v ps.length (flat ps)) (hrs : ps.map (·.1) = rs) (X : Nat → Prop) (hX : ∀ k, some k = v.ownBlock → X k) (hi : ∀ p ∈ ps, IntsX w X p.2 p.1.asks) : RulesX w X v rs := by
  have hl : ps.length = rs.length := by rw [← hrs]; simp
  rcases h.2 with ⟨rfl, hn⟩ | ⟨g, cap, cur, rfl, _, hg, hc, _, hs, ht⟩
  · exact ⟨none, 0, by rw [← hl, hn], by omega, fun i hi => by omega⟩
  · refine ⟨_, cap, by rw [hl], by omega, fun i hi' => ?_⟩
    have hip : i < ps.length := by omega
    obtain ⟨h0, h1, h2⟩ := flat_get ps i hip
    have hr : rs.getD i default = ps[i].1 := by
      rw [← hrs, List.getD_eq_getElem?_getD, List.getElem?_map, List.getElem?_eq_getElem hip]; rfl
    rw [hr]
    have hcell : ∀ j, j < ps.length * 3 → w.cell? ⟨g, 0 + j, none⟩ = (flat ps)[j]? := fun j hj => by
      rw [blk_cell hg, ← ht, List.getElem?_take, if_pos (by omega)]
      simp
    refine ⟨g, 0, ps[i].2, rfl, hX g rfl, ?_, ?_, ?_, hi _ (List.getElem_mem hip)⟩
    · rw [hcell _ (by omega), h0]
    · rw [Nat.add_assoc, hcell _ (by omega), h1]
    · rw [Nat.add_assoc, hcell _ (by omega), h2]
theorem info72b : (Tryd.prog.info? 72).map (fun i => (i.zero, i.size, i.bytes)) = some (some (.agg #[.int .i64 0, .int .i64 0, .slice none 0 0]), 3, 40) := by kernel_rfl
set_option maxHeartbeats 2000000 in
/-- RULES IN NEW MEMORY. -/
theorem own_any (rs : List QRule) (w : World) (X : Nat → Prop) (rv : Value) (hr : RulesX w X rv rs) (hl : rs.length ≤ 200) (ha : ∀ r ∈ rs, r.asks.length ≤ 1000000) :
    Calls Tryd.prog 44 #[rv] w fun e w' => ∃ v', e = .returned v' ∧ Keeps Nob w w' ∧ RulesX w' (fun k => w.heap.size ≤ k ∧ k < w'.heap.size) v' rs := by
  obtain ⟨A, c, rfl, hcc, hcell⟩ := id hr
  obtain ⟨i72, hi72, hs72⟩ := info72
  obtain ⟨i23, hi23, hs23⟩ := info23
  have HI := Lib.hid (And.intro (And.intro hi72 hs72) (And.intro hi23 hs23))
  have Hcell := Lib.hid hcell
  have Ha := Lib.hid ha
  obtain ⟨rl, hrl⟩ : ∃ x, rs.length = x := ⟨_, rfl⟩
  rw [hrl] at hl ⊢
  have Hrl := Lib.hid hrl
  clear hr hcell ha hrl hi72 hs72 hi23 hs23
  go_enter Tryd.func44, Tryd.ntmps44
  go_wp2
  go_loopw [3, 8] (fun ov v wr => ∃ (k : Nat) (ps : List (QRule × Value)), v = .int .i64 k ∧ k ≤ rl ∧ ps.length = k ∧ Hid (Keeps Nob w wr) ∧ Hid (ps.map (·.1) = rs.take k) ∧ Hid (wr.ownsRow 0 72 3 ov ps.length (flat ps)) ∧ Hid (∀ b, ov.ownBlock = some b → w.heap.size ≤ b) ∧ Hid (∀ p ∈ ps, IntsX wr (fun b => w.heap.size ≤ b ∧ b < wr.heap.size ∧ ¬ some b = ov.ownBlock) p.2 p.1.asks))
    (fun _ v _ => rl - (intOf v).toNat)
  case atStart => exact ⟨0, [], rfl, Nat.zero_le _, rfl, Lib.hid (Keeps.refl _ _), Lib.hid rfl, Lib.hid ⟨rfl, .inl ⟨rfl, rfl⟩⟩, Lib.hid (fun b h => by cases h), Lib.hid (fun p h => by cases h)⟩
  case round =>
    obtain ⟨k, ps, rfl, hk, hpl, hkeep, hmap, hown, hob, hin⟩ := hrel
    by_cases hlt : k < rl
    · obtain ⟨b, o, u, rfl, hb, e0, e1, e2, hu⟩ := Hcell.out k (by rw [Hrl.out]; exact hlt)
      have e0 := hkeep.out.cell e0 id
      have e1 := hkeep.out.cell e1 id
      have e2 := hkeep.out.cell e2 id
      have hu' := hu.keep (X' := X) hkeep.out (fun _ _ _ => id) (fun _ _ h => h)
      obtain ⟨uA, uc, rfl, _, _⟩ := id hu
      have Hu := Lib.hid hu'
      have hal := Ha.out (rs.getD k default) (by rw [List.getD_eq_getElem?_getD, List.getElem?_eq_getElem (by rw [Hrl.out]; exact hlt)]; exact List.getElem_mem _)
      clear hu hu' hb
      generalize hrd : rs.getD k default = r at *
      have Hrd := Lib.hid hrd
      clear hrd
      go_wp2_with (first
        | ((with_reducible refine at_dst (N := 5) rfl ?_); go_must (refine ev_alloc rfl rfl zero72 rfl ?_; intro g5 w1 hg5 hl5 hb5 hk1); have Hb5 := Lib.hid hb5; clear hb5; (try simp only [Act.put, List.setIfInBounds_toArray, List.set_cons_zero, List.set_cons_succ]))
        | ((with_reducible refine at_store (t := 72) rfl ?_); go_must (refine ev_store (cs' := #[.int .i64 r.kind, .int .i64 r.n, .slice uA r.asks.length uc]) rfl rfl rfl rfl rfl rfl HI.out.1.1 HI.out.1.2 rfl Hb5.out (Nat.le_of_ble_eq_true rfl) rfl ?_; intro w2 hb2 hk2); have f2 := (blk_cell hb2 2).trans rfl
           have hk12 : Keeps Nob wr w2 := hk1.own hk2 hg5
           have Hb52 := Lib.hid hb2
           have Hrun := Lib.hid (clone_any r.asks w2 X (.slice uA r.asks.length uc) (Hu.out.keep hk12 (fun _ _ _ => id) (fun _ _ h => h)) hal)
           have HK12 := Lib.hid hk12
           clear hk12 hb2
           (try simp only [Act.put, List.setIfInBounds_toArray, List.set_cons_zero, List.set_cons_succ]))
        | (go_at_call 42; go_must (refine Hrun.out.mono ?_; rintro e w3 ⟨cv, rfl, hk3, hcv⟩; obtain ⟨cA, cc, rfl, _, _⟩ := id hcv); have Hcv := Lib.hid hcv; clear hcv; (try simp only [Act.put, List.setIfInBounds_toArray, List.set_cons_zero, List.set_cons_succ]))
        | ((with_reducible refine at_store (t := 23) rfl ?_); go_must (refine ev_store (cs' := #[.int .i64 r.kind, .int .i64 r.n, .slice cA r.asks.length cc]) rfl rfl rfl rfl rfl rfl HI.out.2.1 HI.out.2.2 rfl (hk3.blk Hb52.out id) (Nat.le_of_ble_eq_true rfl) rfl ?_; intro w4 hb4 hk4); have d0 := (blk_cell hb4 0).trans rfl; have d1 := (blk_cell hb4 1).trans rfl; have d2 := (blk_cell hb4 2).trans rfl; clear hb4; (try simp only [Act.put, List.setIfInBounds_toArray, List.set_cons_zero, List.set_cons_succ]))
        | ((with_reducible refine at_dst (N := 18) rfl ?_); go_must (refine ev_slice (cs := #[.int .i64 r.kind, .int .i64 r.n, .slice cA r.asks.length cc]) (t := 72) (n := 1) (c := 1) rfl (by first | (go_simp; done) | (go_simp; rfl)) ?_; intro g6 w5 hg6 hl6 hb6 hk6); have Hb6 := Lib.hid hb6; clear hb6
           have hk15 : Keeps Nob wr w5 := (((HK12.out.trans hk3 (fun _ _ h => h)).own hk4 (by have := HK12.out.size; omega)).trans hk6 (fun _ _ h => h))
           have HK15 := Lib.hid hk15
           clear hk15
           (try simp only [Act.put, List.setIfInBounds_toArray, List.set_cons_zero, List.set_cons_succ]))
        | ((with_reducible refine at_dst (N := 19) rfl ?_); go_must (refine ev_append (W := w5) rfl rfl Tryd.underlying22 info72b rfl (by decide) (base := 0) rfl (ownsRow_keep hown.out HK15.out (fun _ _ => id)) (news := [.int .i64 r.kind, .int .i64 r.n, .slice cA r.asks.length cc]) rfl rfl (fun _ => ⟨_, rfl, World.news_of_block Hb6.out⟩) (by simp [Value.oneCell']) (by omega) (by decide) (Nat.zero_le _) ?_; intro ov6 w6 hown6 hk7 hr6 hf6); have Hown6 := Lib.hid hown6; have Hr6 := Lib.hid hr6; clear hown6 hr6 hf6; (try simp only [Act.put, List.setIfInBounds_toArray, List.set_cons_zero, List.set_cons_succ])))
      have z1 := HK12.out.size
      have lg5 := blk_lt Hb52.out
      have z3 := hk3.size
      have z4 := hk4.size
      have z6 := hk6.size
      have z7 := hk7.size
      have z0 := hkeep.out.size
      have ho := fun b hb => (own_lt hown.out b hb).1
      have hk7' : Keeps Nob w w6 := (hkeep.out.trans HK15.out (fun _ _ h => h)).trans hk7 (fun i hi e => absurd (hob.out i e.symm) (by omega))
      refine ⟨⟨k + 1, ps ++ [(r, .slice cA r.asks.length cc)], by go_num, by omega, by simp [hpl], Lib.hid hk7', Lib.hid ?_, Lib.hid ?_, Lib.hid (fun b hb => ?_), Lib.hid (fun p hp => ?_)⟩, by simp [intOf]; omega⟩
      · rw [List.map_append, hmap.out, List.take_succ_eq_append_getElem (by rw [Hrl.out]; exact hlt)]
        have := Hrd.out
        rw [List.getD_eq_getElem?_getD, List.getElem?_eq_getElem (by rw [Hrl.out]; exact hlt)] at this
        simp at this
        simp [this]
      · have := Hown6.out
        rw [List.length_append]
        simpa [flat] using this
      · rcases Hr6.out with h | ⟨b', h, hl'⟩
        · exact hob.out b (show u3.ownBlock = some b from h.symm.trans hb)
        · rw [h] at hb; injection hb with hb; omega
      · have hfree : ∀ b, b < w5.heap.size → ¬ some b = Value.ownBlock (u3) → ¬ some b = ov6.ownBlock := fun b hb hn e => by
          rcases Hr6.out with h | ⟨b', h, hl'⟩
          · exact hn (e.trans h)
          · rw [h] at e; injection e with e; omega
        rcases List.mem_append.1 hp with hp | hp
        · exact ((hin.out p hp).keep (X' := fun b => w.heap.size ≤ b ∧ b < wr.heap.size ∧ ¬ some b = Value.ownBlock u3) HK15.out (fun _ _ _ => id) (fun _ _ h => h)).keep hk7 (fun b _ hx => hx.2.2) (fun b _ hx => ⟨hx.1, by have := hx.2.1; omega, hfree b (by have := hx.2.1; omega) hx.2.2⟩)
        · rw [List.mem_singleton.1 hp]
          refine (((Hcv.out.keep (X' := fun b => w2.heap.size ≤ b ∧ b < w3.heap.size) hk4 (fun b _ hx e => by have := hx.1; omega) (fun _ _ h => h)).keep (X' := fun b => w2.heap.size ≤ b ∧ b < w3.heap.size) hk6 (fun _ _ _ => id) (fun _ _ h => h))).keep hk7 (fun b _ hx e => by have := ho b e.symm; have := hx.1; omega) (fun b _ hx => ⟨by have := hx.1; omega, by have := hx.2; omega, hfree b (by have := hx.2; omega) (fun e => by have := ho b e.symm; have := hx.1; omega)⟩)
    · have hk' : k = rl := by omega
      subst hk'
      go_wp2
      go_ret
      refine ⟨_, rfl, hkeep.out, RulesX.own hown.out (by rw [hmap.out, List.take_of_length_le (by have := Hrl.out; omega)]) _ (fun b hb => ⟨hob.out b hb.symm, (own_lt hown.out b hb.symm).1⟩) (fun p hp => (hin.out p hp).keep (Keeps.refl Nob _) (fun _ _ _ => id) (fun b _ h => ⟨h.1, h.2.1⟩))⟩
end Go.Proofs.QW
