/-
  QueryPlain, in memory: the law returns true. Condition: rules and inputs lie, and the table of kinds as it is laid.
-/
import Derived.Test.YtohpkolkagddiaaDoorQ35
import Derived.Test.YtohpkolkagddiaaDoorQ24
import Derived.Test.YtohpkolkagddiaaDoorQ23
import Derived.Test.YtohpkolkagddiaaDoorQ17
namespace Go.Proofs.QW
open Go.RowKit Go.Proofs.KL Go.Proofs.QM
set_option maxRecDepth 100000
set_option linter.unusedSimpArgs false
set_option linter.unusedVariables false

/-- The answer of the specification's Plain, as the statement uses it. -/
def refA (rs : List QRule) (vs : List Int) (q : Int) : RA := (rAsk rs vs (rs.length + 1) [] (List.replicate rs.length none) q).2
theorem badV_false {rs : List QRule} {vs : List Int} (h : badV rs vs = false) : ∀ i, i < rs.length → badAt rs vs i = false := fun i hi => by
  unfold badV at h
  rw [List.any_eq_false] at h
  simpa using h i (List.mem_range.2 hi)
theorem plain_env {rs : List QRule} {vs : List Int} (hc : (check rs).2 = 0) (hl : vs.length = rs.length) (hb : badV rs vs = false) : EnvOk (envP rs vs rs.length) :=
  envP_ok hc hl (badV_false hb) rs.length (by omega) (by have := (check_ok hc).1; omega)
theorem plain_same {rs : List QRule} {vs : List Int} {q : Int} (hc : (check rs).2 = 0) (hl : vs.length = rs.length) (hb : badV rs vs = false) (h0 : 0 ≤ q) (h1 : q < rs.length) :
    (plainF rs vs q).2 = (refA rs vs q).e ∧ ((refA rs vs q).e = 0 → (plainF rs vs q).1 = (refA rs vs q).n) ∧ ((refA rs vs q).e ≠ 0 → (plainF rs vs q).1 = 0) := by
  have hE : EnvOk (envP rs vs rs.length) := plain_env hc hl hb
  have hsim := rAsk_sim hE rfl (rs.length + 1) [] ⟨List.replicate rs.length none, []⟩ (List.replicate rs.length none) q (PInv.fresh rs vs rs.length (by omega)) ⟨by simp; rfl, fun p _ kr h => (by unfold PS.get at h; rw [getD_replicate] at h; cases h), fun p _ kr h => (by unfold PS.get at h; rw [getD_replicate] at h; cases h), fun p _ _ => getD_replicate _ _ _⟩ ⟨h0, h1⟩
  unfold plainF
  rw [if_neg (fun h => h hc), if_neg (fun h => h hl), if_neg (by rw [hb]; decide), if_neg (by omega)]
  have e1 : rAsk (envP rs vs rs.length).rules (envP rs vs rs.length).inp = rAsk rs vs := rfl
  rw [e1] at hsim
  unfold refA
  rcases ha : askF (envP rs vs rs.length) (rs.length + 1) [] ⟨List.replicate rs.length none, []⟩ q with ⟨s1, r1⟩
  rw [ha] at hsim
  obtain ⟨-, hf⟩ := hsim
  cases r1 with
  | error c =>
    obtain ⟨h2, h3⟩ := hf
    exact ⟨h2.symm, fun h => absurd (h2.symm.trans h) h3, fun _ => rfl⟩
  | ok x =>
    obtain ⟨v, ch⟩ := x
    obtain ⟨h2, h3⟩ := hf
    exact ⟨h3.symm, fun _ => h2.symm, fun h => absurd h3 h⟩
theorem take_min {α : Type} (xs : List α) (n m : Nat) (hm : m = min xs.length n) : xs.take n = xs.take m := by
  rw [hm]
  rcases Nat.le_total xs.length n with h | h
  · rw [Nat.min_eq_left h, List.take_of_length_le h, List.take_of_length_le (Nat.le_refl _)]
  · rw [Nat.min_eq_right h]
/-- What is got first of a slice of ints. -/
theorem ints_news {w : World} {X : Nat → Prop} {A : Option Addr} {n c m : Nat} {xs : List Int} (h : IntsX w X (.slice A n c) xs) : ∀ j u, ((xs.take m).map (Value.int .i64))[j]? = some u → ∀ ad, A = some ad → w.cell? (ad.add j) = some u := fun j u hj ad had => by
  have hlt : j < m ∧ j < xs.length := by
    have := (List.getElem?_eq_some_iff.1 hj).1
    rw [List.length_map, List.length_take] at this
    omega
  obtain ⟨A', c', h1, _, h3⟩ := h
  injection h1 with h1 _ _
  obtain ⟨b, o, h, _, hc⟩ := h3 j hlt.2
  rw [← h1, had] at h
  injection h with h
  subst h
  have hu : u = .int .i64 (xs.getD j 0) := by
    rw [List.getElem?_map, List.getElem?_take, if_pos hlt.1, List.getElem?_eq_getElem hlt.2] at hj
    simp at hj
    rw [← hj, List.getD_eq_getElem?_getD, List.getElem?_eq_getElem hlt.2]; rfl
  rw [hu]
  by_cases h0 : j = 0
  · subst h0; simpa [Addr.add] using hc
  · simpa [Addr.add, h0] using hc
set_option maxHeartbeats 40000000 in
/-- QUERYPLAIN. -/
theorem QueryPlain_any (rs : List QRule) (vs : List Int) (q : Int) (w : World) (X Y : Nat → Prop) (rv iv : Value) (hr : RulesX w X rv rs) (hv : IntsX w Y iv vs) (ht : Tab w) :
    Calls Tryd.prog 3 #[rv, iv, .int .i64 q] w fun e w' => e = .returned (.bool true) ∧ Keeps Nob w w' := by
  have HC := Lib.hid (cut_any rs w X rv hr)
  have HT := Lib.hid ht
  have HT0 := Lib.hid (show 0 < w.heap.size from World.block_lt_of_cell? _ _ (ht 1 (by omega) (by omega)).1)
  obtain ⟨rA, rc, rfl, -, -⟩ := id hr
  obtain ⟨iA, ic, rfl, hic, hic2⟩ := id hv
  have HV := Lib.hid hv
  have hnone : iA = none → vs.length = 0 := fun e => by
    rcases Nat.eq_zero_or_pos vs.length with h | h
    · exact h
    · obtain ⟨b, o, h2, _⟩ := hic2 0 h; rw [e] at h2; cases h2
  have Hnone := Lib.hid hnone
  obtain ⟨m, hm⟩ : ∃ m : Nat, m = min vs.length 202 := ⟨_, rfl⟩
  have hmin : (if (202 : Int) < (vs.length : Int) then (202 : Int) else (vs.length : Int)) = (m : Int) := by split <;> omega
  have hm1 : m ≤ vs.length := by omega
  have hm2 : m ≤ 202 := by omega
  have hm3 : m ≤ ic := by omega
  have Hl := Lib.hid (cutM_len rs)
  generalize cutM rs = own at *
  clear hr hv ht hic2 hnone hm hic
  rcases hck : check own with ⟨c1, c2⟩
  have Hck := Lib.hid hck
  clear hck
  cases iA with
  | none =>
    have h0 := Hnone.out rfl
    have hm0 : m = 0 := by omega
    go_enter Tryd.func3, Tryd.ntmps3
    go_wp2_with (first
      | (go_at_call 10; go_must (refine HC.out.mono ?_; rintro e w1 ⟨ov, rfl, hk1, hr1⟩; obtain ⟨oA, oc, rfl, _, _⟩ := id hr1)
         have Hr1 := Lib.hid hr1
         clear hr1
         (try simp only [Act.put, List.setIfInBounds_toArray, List.set_cons_zero, List.set_cons_succ]))
      | ((with_reducible refine at_dst (N := 16) rfl ?_); go_must (refine ev_slice (cs := #[]) (t := 3) (n := 0) (c := 0) rfl (by first | (go_simp; done) | (go_simp; rfl)) ?_; intro gB w2 hgB hlB hbB hk2)
         have HbB := Lib.hid hbB
         have HK2 := Lib.hid (hk1.trans hk2 (fun _ _ h => h))
         have Hr2 := Lib.hid (Hr1.out.keep (X' := fun k => w.heap.size ≤ k ∧ k < w1.heap.size) hk2 (fun _ _ _ => id) (fun _ _ h => h))
         clear hbB
         (try simp only [Act.put, List.setIfInBounds_toArray, List.set_cons_zero, List.set_cons_succ]))
      | ((with_reducible refine at_dst (N := 22) rfl ?_); go_must (refine ev_append (W := w2) (xs := []) (n := 0) (m := 0) (news := (vs.take m).map (Value.int .i64)) rfl rfl Tryd.underlying23 info3 rfl (by decide) (base := 0) rfl ⟨rfl, .inr ⟨gB, 0, #[], rfl, Nat.zero_le _, HbB.out, Nat.le_refl _, Nat.zero_le _, rfl, rfl⟩⟩ rfl (by rw [List.length_map, List.length_take]; omega) (fun h => absurd h (by omega)) (fun u hu => by obtain ⟨x, _, rfl⟩ := List.mem_map.1 hu; rfl) (by omega) (by decide) (Nat.zero_le _) ?_; intro cv w3 hown3 hk3 hr3 hf3; rw [Nat.zero_add] at hown3; obtain ⟨cA, cc, rfl⟩ := own_slice hown3)
         have HgB := Lib.hid (show w1.heap.size ≤ gB from hgB)
         have hk3' : Keeps (fun k => k = gB) w2 w3 := hk3.mono (fun i hi e => by have e : some i = some gB := e; injection e)
         have HK3 := Lib.hid (HK2.out.trans hk3' (fun i hi e => by have h1 := HgB.out; have h2 := hk1.size; omega))
         have Hr3 := Lib.hid (Hr2.out.keep (X' := fun k => w.heap.size ≤ k ∧ k < w1.heap.size) hk3' (fun b _ hx e => by have h1 := HgB.out; have h2 := hx.2; omega) (fun _ _ h => h))
         have Hv3 := Lib.hid (show IntsX w3 (fun _ => True) (.slice cA (0) cc) (vs.take m) from IntsX.own (xs := vs.take m) (by rw [show (vs.take m).length = 0 by rw [List.length_take]; omega]; exact hown3) _ (fun _ _ => trivial))
         clear hown3 hf3 hr3 hk3
         (try simp only [Act.put, List.setIfInBounds_toArray, List.set_cons_zero, List.set_cons_succ]))
    )
    have hrc := RefCheck_any own w3 _ _ Hr3.out
    rw [Hck.out] at hrc
    have Hrc := Lib.hid hrc
    clear hrc
    have Hcv := Lib.hid (show cA = cA from rfl)
    by_cases hc0 : c2 = 0
    · have Hc0 := Lib.hid (show (check own).2 = 0 by rw [Hck.out]; exact hc0)
      have hne : (c2 != 0) = false := by simp [hc0]
      have h200 := (check_ok Hc0.out).1
      clear hc0
      obtain ⟨vb, hvb⟩ : ∃ x, valuesOk own (vs.take m) = x := ⟨_, rfl⟩
      have Hvb := Lib.hid hvb
      clear hvb
      cases vb with
      | false =>
        have hpf : plainF own (vs.take m) q = (0, 2) := by
          have h := Hvb.out
          unfold valuesOk at h
          unfold plainF
          rw [if_neg (fun h => h Hc0.out)]
          by_cases hl : (vs.take m).length = own.length
          · rw [if_neg (fun h => h hl), if_pos]
            rw [decide_eq_true hl, Bool.true_and] at h
            simpa using h
          · rw [if_pos hl]
        have Hpf := Lib.hid hpf
        clear hpf
        go_wp2_with (first
          | (go_at_call 11; go_must (refine Hrc.out.mono ?_; rintro e w4 ⟨rfl, hk4⟩)
             have HK4 := Lib.hid (HK3.out.trans hk4 (fun _ _ h => h))
             have Hr4 := Lib.hid (Hr3.out.keep (X' := fun k => w.heap.size ≤ k ∧ k < w1.heap.size) hk4 (fun _ _ _ => id) (fun _ _ h => h))
             have Hv4 := Lib.hid (Hv3.out.keep (X' := fun _ => True) hk4 (fun _ _ _ => id) (fun _ _ h => h))
             clear hk4
             (try simp only [Act.put, List.setIfInBounds_toArray, List.set_cons_zero, List.set_cons_succ]))
          | (go_at_call 12
             have hva := Values_any own (vs.take m) w4 _ _ _ _ Hr4.out Hv4.out h200
             rw [Hvb.out] at hva
             go_must (refine hva.mono ?_; rintro e w5 ⟨rfl, hw5⟩; obtain rfl := hw5.symm)
             (try simp only [Act.put, List.setIfInBounds_toArray, List.set_cons_zero, List.set_cons_succ]))
          | (go_at_call 15
             have hpl := Plain_any own (vs.take m) q w4 _ _ _ _ Hr4.out Hv4.out (fun _ => HT.out.keep HK4.out id)
             rw [Hpf.out] at hpl
             go_must (refine hpl.mono ?_; rintro e w6 ⟨rfl, hk6⟩)
             have HK6 := Lib.hid (Keeps.trans HK4.out hk6 (fun _ _ h => h))
             clear hk6
             (try simp only [Act.put, List.setIfInBounds_toArray, List.set_cons_zero, List.set_cons_succ]))
          | (go_at_call 14; go_must (refine (alive_any w6 (HT.out.keep HK6.out id)).mono ?_; rintro e w7 ⟨rfl, hk7⟩); (try simp only [Act.put, List.setIfInBounds_toArray, List.set_cons_zero, List.set_cons_succ]))
        )
        go_ret
        exact ⟨rfl, HK6.out.trans hk7 (fun _ _ h => h)⟩
      | true =>
        have hlb : (vs.take m).length = own.length ∧ badV own (vs.take m) = false := by
          have h := Hvb.out
          unfold valuesOk at h
          rw [Bool.and_eq_true] at h
          exact ⟨of_decide_eq_true h.1, by simpa using h.2⟩
        have Hlb := Lib.hid hlb
        clear hlb
        by_cases hq0 : q < 0
        · have hpf : plainF own (vs.take m) q = (0, 5) := by
            unfold plainF
            rw [if_neg (fun h => h Hc0.out), if_neg (fun h => h Hlb.out.1), if_neg (by rw [Hlb.out.2]; decide), if_pos (.inl hq0)]
          have Hpf := Lib.hid hpf
          clear hpf
          go_wp2_with (first
            | (go_at_call 11; go_must (refine Hrc.out.mono ?_; rintro e w4 ⟨rfl, hk4⟩)
               have HK4 := Lib.hid (HK3.out.trans hk4 (fun _ _ h => h))
               have Hr4 := Lib.hid (Hr3.out.keep (X' := fun k => w.heap.size ≤ k ∧ k < w1.heap.size) hk4 (fun _ _ _ => id) (fun _ _ h => h))
               have Hv4 := Lib.hid (Hv3.out.keep (X' := fun _ => True) hk4 (fun _ _ _ => id) (fun _ _ h => h))
               clear hk4
               (try simp only [Act.put, List.setIfInBounds_toArray, List.set_cons_zero, List.set_cons_succ]))
            | (go_at_call 12
               have hva := Values_any own (vs.take m) w4 _ _ _ _ Hr4.out Hv4.out h200
               rw [Hvb.out] at hva
               go_must (refine hva.mono ?_; rintro e w5 ⟨rfl, hw5⟩; obtain rfl := hw5.symm)
               (try simp only [Act.put, List.setIfInBounds_toArray, List.set_cons_zero, List.set_cons_succ]))
            | (go_at_call 15
               have hpl := Plain_any own (vs.take m) q w4 _ _ _ _ Hr4.out Hv4.out (fun _ => HT.out.keep HK4.out id)
               rw [Hpf.out] at hpl
               go_must (refine hpl.mono ?_; rintro e w6 ⟨rfl, hk6⟩)
               have HK6 := Lib.hid (Keeps.trans HK4.out hk6 (fun _ _ h => h))
               clear hk6
               (try simp only [Act.put, List.setIfInBounds_toArray, List.set_cons_zero, List.set_cons_succ]))
            | (go_at_call 14; go_must (refine (alive_any w6 (HT.out.keep HK6.out id)).mono ?_; rintro e w7 ⟨rfl, hk7⟩); (try simp only [Act.put, List.setIfInBounds_toArray, List.set_cons_zero, List.set_cons_succ]))
          )
          go_ret
          exact ⟨rfl, HK6.out.trans hk7 (fun _ _ h => h)⟩
        · by_cases hq1 : (own.length : Int) ≤ q
          · have hpf : plainF own (vs.take m) q = (0, 5) := by
              unfold plainF
              rw [if_neg (fun h => h Hc0.out), if_neg (fun h => h Hlb.out.1), if_neg (by rw [Hlb.out.2]; decide), if_pos (.inr hq1)]
            have Hpf := Lib.hid hpf
            clear hpf
            go_wp2_with (first
              | (go_at_call 11; go_must (refine Hrc.out.mono ?_; rintro e w4 ⟨rfl, hk4⟩)
                 have HK4 := Lib.hid (HK3.out.trans hk4 (fun _ _ h => h))
                 have Hr4 := Lib.hid (Hr3.out.keep (X' := fun k => w.heap.size ≤ k ∧ k < w1.heap.size) hk4 (fun _ _ _ => id) (fun _ _ h => h))
                 have Hv4 := Lib.hid (Hv3.out.keep (X' := fun _ => True) hk4 (fun _ _ _ => id) (fun _ _ h => h))
                 clear hk4
                 (try simp only [Act.put, List.setIfInBounds_toArray, List.set_cons_zero, List.set_cons_succ]))
              | (go_at_call 12
                 have hva := Values_any own (vs.take m) w4 _ _ _ _ Hr4.out Hv4.out h200
                 rw [Hvb.out] at hva
                 go_must (refine hva.mono ?_; rintro e w5 ⟨rfl, hw5⟩; obtain rfl := hw5.symm)
                 (try simp only [Act.put, List.setIfInBounds_toArray, List.set_cons_zero, List.set_cons_succ]))
              | (go_at_call 15
                 have hpl := Plain_any own (vs.take m) q w4 _ _ _ _ Hr4.out Hv4.out (fun _ => HT.out.keep HK4.out id)
                 rw [Hpf.out] at hpl
                 go_must (refine hpl.mono ?_; rintro e w6 ⟨rfl, hk6⟩)
                 have HK6 := Lib.hid (Keeps.trans HK4.out hk6 (fun _ _ h => h))
                 clear hk6
                 (try simp only [Act.put, List.setIfInBounds_toArray, List.set_cons_zero, List.set_cons_succ]))
              | (go_at_call 14; go_must (refine (alive_any w6 (HT.out.keep HK6.out id)).mono ?_; rintro e w7 ⟨rfl, hk7⟩); (try simp only [Act.put, List.setIfInBounds_toArray, List.set_cons_zero, List.set_cons_succ]))
            )
            go_ret
            exact ⟨rfl, HK6.out.trans hk7 (fun _ _ h => h)⟩
          · have hsame := plain_same Hc0.out Hlb.out.1 Hlb.out.2 (q := q) (by omega) (by omega)
            have Hq := Lib.hid (show InQ (envP own (vs.take m) own.length) q from ⟨by omega, by show q < own.length; omega⟩)
            obtain ⟨a, ha⟩ : ∃ a, refA own (vs.take m) q = a := ⟨_, rfl⟩
            rw [ha] at hsame
            have Ha := Lib.hid ha
            obtain ⟨an, ac, ae⟩ := a
            rcases hpf : plainF own (vs.take m) q with ⟨p1, p2⟩
            rw [hpf] at hsame
            obtain ⟨hs1, hs2, hs3⟩ := hsame
            simp only at hs1 hs2 hs3
            subst hs1
            have Hpf := Lib.hid hpf
            have Hs := Lib.hid (And.intro hs2 hs3)
            clear ha hpf hs2 hs3
            by_cases hcost : (3000 : Int) < ac
            · go_wp2_with (first
                | (go_at_call 11; go_must (refine Hrc.out.mono ?_; rintro e w4 ⟨rfl, hk4⟩)
                   have HK4 := Lib.hid (HK3.out.trans hk4 (fun _ _ h => h))
                   have Hr4 := Lib.hid (Hr3.out.keep (X' := fun k => w.heap.size ≤ k ∧ k < w1.heap.size) hk4 (fun _ _ _ => id) (fun _ _ h => h))
                   have Hv4 := Lib.hid (Hv3.out.keep (X' := fun _ => True) hk4 (fun _ _ _ => id) (fun _ _ h => h))
                   clear hk4
                   (try simp only [Act.put, List.setIfInBounds_toArray, List.set_cons_zero, List.set_cons_succ]))
                | (go_at_call 12
                   have hva := Values_any own (vs.take m) w4 _ _ _ _ Hr4.out Hv4.out h200
                   rw [Hvb.out] at hva
                   go_must (refine hva.mono ?_; rintro e w5 ⟨rfl, hw5⟩; obtain rfl := hw5.symm)
                   (try simp only [Act.put, List.setIfInBounds_toArray, List.set_cons_zero, List.set_cons_succ]))
                | (go_at_call 13; go_must (refine (RefPlain_any (plain_env Hc0.out Hlb.out.1 Hlb.out.2) w4 _ _ _ _ q Hr4.out Hv4.out Hq.out Ha.out).mono ?_; rintro e w5 ⟨rfl, hk5⟩)
                   have HK5 := Lib.hid (HK4.out.trans hk5 (fun _ _ h => h))
                   have Hr5 := Lib.hid (Hr4.out.keep (X' := fun k => w.heap.size ≤ k ∧ k < w1.heap.size) hk5 (fun _ _ _ => id) (fun _ _ h => h))
                   have Hv5 := Lib.hid (Hv4.out.keep (X' := fun _ => True) hk5 (fun _ _ _ => id) (fun _ _ h => h))
                   clear hk5
                   (try simp only [Act.put, List.setIfInBounds_toArray, List.set_cons_zero, List.set_cons_succ]))
                | (go_at_call 14; go_must (refine (alive_any w5 (HT.out.keep HK5.out id)).mono ?_; rintro e w7 ⟨rfl, hk7⟩); (try simp only [Act.put, List.setIfInBounds_toArray, List.set_cons_zero, List.set_cons_succ]))
              )
              go_ret
              exact ⟨rfl, HK5.out.trans hk7 (fun _ _ h => h)⟩
            · by_cases hae : p2 = 0
              · have hp1 := Hs.out.1 hae
                subst hp1
                subst hae
                go_wp2_with (first
                  | (go_at_call 11; go_must (refine Hrc.out.mono ?_; rintro e w4 ⟨rfl, hk4⟩)
                     have HK4 := Lib.hid (HK3.out.trans hk4 (fun _ _ h => h))
                     have Hr4 := Lib.hid (Hr3.out.keep (X' := fun k => w.heap.size ≤ k ∧ k < w1.heap.size) hk4 (fun _ _ _ => id) (fun _ _ h => h))
                     have Hv4 := Lib.hid (Hv3.out.keep (X' := fun _ => True) hk4 (fun _ _ _ => id) (fun _ _ h => h))
                     clear hk4
                     (try simp only [Act.put, List.setIfInBounds_toArray, List.set_cons_zero, List.set_cons_succ]))
                  | (go_at_call 12
                     have hva := Values_any own (vs.take m) w4 _ _ _ _ Hr4.out Hv4.out h200
                     rw [Hvb.out] at hva
                     go_must (refine hva.mono ?_; rintro e w5 ⟨rfl, hw5⟩; obtain rfl := hw5.symm)
                     (try simp only [Act.put, List.setIfInBounds_toArray, List.set_cons_zero, List.set_cons_succ]))
                  | (go_at_call 13; go_must (refine (RefPlain_any (plain_env Hc0.out Hlb.out.1 Hlb.out.2) w4 _ _ _ _ q Hr4.out Hv4.out Hq.out Ha.out).mono ?_; rintro e w5 ⟨rfl, hk5⟩)
                     have HK5 := Lib.hid (HK4.out.trans hk5 (fun _ _ h => h))
                     have Hr5 := Lib.hid (Hr4.out.keep (X' := fun k => w.heap.size ≤ k ∧ k < w1.heap.size) hk5 (fun _ _ _ => id) (fun _ _ h => h))
                     have Hv5 := Lib.hid (Hv4.out.keep (X' := fun _ => True) hk5 (fun _ _ _ => id) (fun _ _ h => h))
                     clear hk5
                     (try simp only [Act.put, List.setIfInBounds_toArray, List.set_cons_zero, List.set_cons_succ]))
                  | (go_at_call 15
                     have hpl := Plain_any own (vs.take m) q w5 _ _ _ _ Hr5.out Hv5.out (fun _ => HT.out.keep HK5.out id)
                     rw [Hpf.out] at hpl
                     go_must (refine hpl.mono ?_; rintro e w6 ⟨rfl, hk6⟩)
                     have HK6 := Lib.hid (Keeps.trans HK5.out hk6 (fun _ _ h => h))
                     clear hk6
                     (try simp only [Act.put, List.setIfInBounds_toArray, List.set_cons_zero, List.set_cons_succ]))
                  | (go_at_call 14; go_must (refine (alive_any w6 (HT.out.keep HK6.out id)).mono ?_; rintro e w7 ⟨rfl, hk7⟩); (try simp only [Act.put, List.setIfInBounds_toArray, List.set_cons_zero, List.set_cons_succ]))
                )
                go_ret
                exact ⟨rfl, HK6.out.trans hk7 (fun _ _ h => h)⟩
              · have hp1 := Hs.out.2 hae
                subst hp1
                have hne2 : (p2 != 0) = true := by simpa using hae
                have hze2 : (p2 == 0) = false := by simpa using hae
                clear hae
                go_wp2_with (first
                  | (go_at_call 11; go_must (refine Hrc.out.mono ?_; rintro e w4 ⟨rfl, hk4⟩)
                     have HK4 := Lib.hid (HK3.out.trans hk4 (fun _ _ h => h))
                     have Hr4 := Lib.hid (Hr3.out.keep (X' := fun k => w.heap.size ≤ k ∧ k < w1.heap.size) hk4 (fun _ _ _ => id) (fun _ _ h => h))
                     have Hv4 := Lib.hid (Hv3.out.keep (X' := fun _ => True) hk4 (fun _ _ _ => id) (fun _ _ h => h))
                     clear hk4
                     (try simp only [Act.put, List.setIfInBounds_toArray, List.set_cons_zero, List.set_cons_succ]))
                  | (go_at_call 12
                     have hva := Values_any own (vs.take m) w4 _ _ _ _ Hr4.out Hv4.out h200
                     rw [Hvb.out] at hva
                     go_must (refine hva.mono ?_; rintro e w5 ⟨rfl, hw5⟩; obtain rfl := hw5.symm)
                     (try simp only [Act.put, List.setIfInBounds_toArray, List.set_cons_zero, List.set_cons_succ]))
                  | (go_at_call 13; go_must (refine (RefPlain_any (plain_env Hc0.out Hlb.out.1 Hlb.out.2) w4 _ _ _ _ q Hr4.out Hv4.out Hq.out Ha.out).mono ?_; rintro e w5 ⟨rfl, hk5⟩)
                     have HK5 := Lib.hid (HK4.out.trans hk5 (fun _ _ h => h))
                     have Hr5 := Lib.hid (Hr4.out.keep (X' := fun k => w.heap.size ≤ k ∧ k < w1.heap.size) hk5 (fun _ _ _ => id) (fun _ _ h => h))
                     have Hv5 := Lib.hid (Hv4.out.keep (X' := fun _ => True) hk5 (fun _ _ _ => id) (fun _ _ h => h))
                     clear hk5
                     (try simp only [Act.put, List.setIfInBounds_toArray, List.set_cons_zero, List.set_cons_succ]))
                  | (go_at_call 15
                     have hpl := Plain_any own (vs.take m) q w5 _ _ _ _ Hr5.out Hv5.out (fun _ => HT.out.keep HK5.out id)
                     rw [Hpf.out] at hpl
                     go_must (refine hpl.mono ?_; rintro e w6 ⟨rfl, hk6⟩)
                     have HK6 := Lib.hid (Keeps.trans HK5.out hk6 (fun _ _ h => h))
                     clear hk6
                     (try simp only [Act.put, List.setIfInBounds_toArray, List.set_cons_zero, List.set_cons_succ]))
                  | (go_at_call 14; go_must (refine (alive_any w6 (HT.out.keep HK6.out id)).mono ?_; rintro e w7 ⟨rfl, hk7⟩); (try simp only [Act.put, List.setIfInBounds_toArray, List.set_cons_zero, List.set_cons_succ]))
                )
                go_ret
                exact ⟨rfl, HK6.out.trans hk7 (fun _ _ h => h)⟩
    · have hne : (c2 != 0) = true := by simpa using hc0
      have hze : (c2 == 0) = false := by simpa using hc0
      have hpf : plainF own (vs.take m) q = (0, c2) := by unfold plainF; rw [if_pos (by rw [Hck.out]; exact hc0), Hck.out]
      have Hpf := Lib.hid hpf
      clear hpf hc0
      go_wp2_with (first
        | (go_at_call 11; go_must (refine Hrc.out.mono ?_; rintro e w4 ⟨rfl, hk4⟩)
           have HK4 := Lib.hid (HK3.out.trans hk4 (fun _ _ h => h))
           have Hr4 := Lib.hid (Hr3.out.keep (X' := fun k => w.heap.size ≤ k ∧ k < w1.heap.size) hk4 (fun _ _ _ => id) (fun _ _ h => h))
           have Hv4 := Lib.hid (Hv3.out.keep (X' := fun _ => True) hk4 (fun _ _ _ => id) (fun _ _ h => h))
           clear hk4
           (try simp only [Act.put, List.setIfInBounds_toArray, List.set_cons_zero, List.set_cons_succ]))
        | (go_at_call 15
           have hpl := Plain_any own (vs.take m) q w4 _ _ _ _ Hr4.out Hv4.out (fun _ => HT.out.keep HK4.out id)
           rw [Hpf.out] at hpl
           go_must (refine hpl.mono ?_; rintro e w6 ⟨rfl, hk6⟩)
           have HK6 := Lib.hid (Keeps.trans HK4.out hk6 (fun _ _ h => h))
           clear hk6
           (try simp only [Act.put, List.setIfInBounds_toArray, List.set_cons_zero, List.set_cons_succ]))
        | (go_at_call 14; go_must (refine (alive_any w6 (HT.out.keep HK6.out id)).mono ?_; rintro e w7 ⟨rfl, hk7⟩); (try simp only [Act.put, List.setIfInBounds_toArray, List.set_cons_zero, List.set_cons_succ]))
      )
      go_ret
      exact ⟨rfl, HK6.out.trans hk7 (fun _ _ h => h)⟩
  | some ad =>
    have Hnews := Lib.hid (fun j u hj => ints_news (m := m) HV.out j u hj ad rfl)
    go_enter Tryd.func3, Tryd.ntmps3
    go_wp2_with (first
      | (go_at_call 10; go_must (refine HC.out.mono ?_; rintro e w1 ⟨ov, rfl, hk1, hr1⟩; obtain ⟨oA, oc, rfl, _, _⟩ := id hr1)
         have Hr1 := Lib.hid hr1
         clear hr1
         (try simp only [Act.put, List.setIfInBounds_toArray, List.set_cons_zero, List.set_cons_succ]))
      | ((with_reducible refine at_dst (N := 16) rfl ?_); go_must (refine ev_slice (cs := #[]) (t := 3) (n := 0) (c := 0) rfl (by first | (go_simp; done) | (go_simp; rfl)) ?_; intro gB w2 hgB hlB hbB hk2)
         have HbB := Lib.hid hbB
         have HK2 := Lib.hid (hk1.trans hk2 (fun _ _ h => h))
         have Hr2 := Lib.hid (Hr1.out.keep (X' := fun k => w.heap.size ≤ k ∧ k < w1.heap.size) hk2 (fun _ _ _ => id) (fun _ _ h => h))
         clear hbB
         (try simp only [Act.put, List.setIfInBounds_toArray, List.set_cons_zero, List.set_cons_succ]))
      | ((with_reducible refine at_dst (N := 22) rfl ?_); go_must (refine ev_append (W := w2) (xs := []) (n := 0) (m := m) (news := (vs.take m).map (Value.int .i64)) rfl rfl Tryd.underlying23 info3 rfl (by decide) (base := 0) rfl ⟨rfl, .inr ⟨gB, 0, #[], rfl, Nat.zero_le _, HbB.out, Nat.le_refl _, Nat.zero_le _, rfl, rfl⟩⟩ rfl (by rw [List.length_map, List.length_take]; omega) (fun _ => ⟨ad, rfl, fun j u hj => HK2.out.cell (Hnews.out j u hj) id⟩) (fun u hu => by obtain ⟨x, _, rfl⟩ := List.mem_map.1 hu; rfl) (by omega) (by decide) (Nat.zero_le _) ?_; intro cv w3 hown3 hk3 hr3 hf3; rw [Nat.zero_add] at hown3; obtain ⟨cA, cc, rfl⟩ := own_slice hown3)
         have HgB := Lib.hid (show w1.heap.size ≤ gB from hgB)
         have hk3' : Keeps (fun k => k = gB) w2 w3 := hk3.mono (fun i hi e => by have e : some i = some gB := e; injection e)
         have HK3 := Lib.hid (HK2.out.trans hk3' (fun i hi e => by have h1 := HgB.out; have h2 := hk1.size; omega))
         have Hr3 := Lib.hid (Hr2.out.keep (X' := fun k => w.heap.size ≤ k ∧ k < w1.heap.size) hk3' (fun b _ hx e => by have h1 := HgB.out; have h2 := hx.2; omega) (fun _ _ h => h))
         have Hv3 := Lib.hid (show IntsX w3 (fun _ => True) (.slice cA (m) cc) (vs.take m) from IntsX.own (xs := vs.take m) (by rw [show (vs.take m).length = m by rw [List.length_take]; omega]; exact hown3) _ (fun _ _ => trivial))
         clear hown3 hf3 hr3 hk3
         (try simp only [Act.put, List.setIfInBounds_toArray, List.set_cons_zero, List.set_cons_succ]))
    )
    have hrc := RefCheck_any own w3 _ _ Hr3.out
    rw [Hck.out] at hrc
    have Hrc := Lib.hid hrc
    clear hrc
    have Hcv := Lib.hid (show cA = cA from rfl)
    by_cases hc0 : c2 = 0
    · have Hc0 := Lib.hid (show (check own).2 = 0 by rw [Hck.out]; exact hc0)
      have hne : (c2 != 0) = false := by simp [hc0]
      have h200 := (check_ok Hc0.out).1
      clear hc0
      obtain ⟨vb, hvb⟩ : ∃ x, valuesOk own (vs.take m) = x := ⟨_, rfl⟩
      have Hvb := Lib.hid hvb
      clear hvb
      cases vb with
      | false =>
        have hpf : plainF own (vs.take m) q = (0, 2) := by
          have h := Hvb.out
          unfold valuesOk at h
          unfold plainF
          rw [if_neg (fun h => h Hc0.out)]
          by_cases hl : (vs.take m).length = own.length
          · rw [if_neg (fun h => h hl), if_pos]
            rw [decide_eq_true hl, Bool.true_and] at h
            simpa using h
          · rw [if_pos hl]
        have Hpf := Lib.hid hpf
        clear hpf
        go_wp2_with (first
          | (go_at_call 11; go_must (refine Hrc.out.mono ?_; rintro e w4 ⟨rfl, hk4⟩)
             have HK4 := Lib.hid (HK3.out.trans hk4 (fun _ _ h => h))
             have Hr4 := Lib.hid (Hr3.out.keep (X' := fun k => w.heap.size ≤ k ∧ k < w1.heap.size) hk4 (fun _ _ _ => id) (fun _ _ h => h))
             have Hv4 := Lib.hid (Hv3.out.keep (X' := fun _ => True) hk4 (fun _ _ _ => id) (fun _ _ h => h))
             clear hk4
             (try simp only [Act.put, List.setIfInBounds_toArray, List.set_cons_zero, List.set_cons_succ]))
          | (go_at_call 12
             have hva := Values_any own (vs.take m) w4 _ _ _ _ Hr4.out Hv4.out h200
             rw [Hvb.out] at hva
             go_must (refine hva.mono ?_; rintro e w5 ⟨rfl, hw5⟩; obtain rfl := hw5.symm)
             (try simp only [Act.put, List.setIfInBounds_toArray, List.set_cons_zero, List.set_cons_succ]))
          | (go_at_call 15
             have hpl := Plain_any own (vs.take m) q w4 _ _ _ _ Hr4.out Hv4.out (fun _ => HT.out.keep HK4.out id)
             rw [Hpf.out] at hpl
             go_must (refine hpl.mono ?_; rintro e w6 ⟨rfl, hk6⟩)
             have HK6 := Lib.hid (Keeps.trans HK4.out hk6 (fun _ _ h => h))
             clear hk6
             (try simp only [Act.put, List.setIfInBounds_toArray, List.set_cons_zero, List.set_cons_succ]))
          | (go_at_call 14; go_must (refine (alive_any w6 (HT.out.keep HK6.out id)).mono ?_; rintro e w7 ⟨rfl, hk7⟩); (try simp only [Act.put, List.setIfInBounds_toArray, List.set_cons_zero, List.set_cons_succ]))
        )
        go_ret
        exact ⟨rfl, HK6.out.trans hk7 (fun _ _ h => h)⟩
      | true =>
        have hlb : (vs.take m).length = own.length ∧ badV own (vs.take m) = false := by
          have h := Hvb.out
          unfold valuesOk at h
          rw [Bool.and_eq_true] at h
          exact ⟨of_decide_eq_true h.1, by simpa using h.2⟩
        have Hlb := Lib.hid hlb
        clear hlb
        by_cases hq0 : q < 0
        · have hpf : plainF own (vs.take m) q = (0, 5) := by
            unfold plainF
            rw [if_neg (fun h => h Hc0.out), if_neg (fun h => h Hlb.out.1), if_neg (by rw [Hlb.out.2]; decide), if_pos (.inl hq0)]
          have Hpf := Lib.hid hpf
          clear hpf
          go_wp2_with (first
            | (go_at_call 11; go_must (refine Hrc.out.mono ?_; rintro e w4 ⟨rfl, hk4⟩)
               have HK4 := Lib.hid (HK3.out.trans hk4 (fun _ _ h => h))
               have Hr4 := Lib.hid (Hr3.out.keep (X' := fun k => w.heap.size ≤ k ∧ k < w1.heap.size) hk4 (fun _ _ _ => id) (fun _ _ h => h))
               have Hv4 := Lib.hid (Hv3.out.keep (X' := fun _ => True) hk4 (fun _ _ _ => id) (fun _ _ h => h))
               clear hk4
               (try simp only [Act.put, List.setIfInBounds_toArray, List.set_cons_zero, List.set_cons_succ]))
            | (go_at_call 12
               have hva := Values_any own (vs.take m) w4 _ _ _ _ Hr4.out Hv4.out h200
               rw [Hvb.out] at hva
               go_must (refine hva.mono ?_; rintro e w5 ⟨rfl, hw5⟩; obtain rfl := hw5.symm)
               (try simp only [Act.put, List.setIfInBounds_toArray, List.set_cons_zero, List.set_cons_succ]))
            | (go_at_call 15
               have hpl := Plain_any own (vs.take m) q w4 _ _ _ _ Hr4.out Hv4.out (fun _ => HT.out.keep HK4.out id)
               rw [Hpf.out] at hpl
               go_must (refine hpl.mono ?_; rintro e w6 ⟨rfl, hk6⟩)
               have HK6 := Lib.hid (Keeps.trans HK4.out hk6 (fun _ _ h => h))
               clear hk6
               (try simp only [Act.put, List.setIfInBounds_toArray, List.set_cons_zero, List.set_cons_succ]))
            | (go_at_call 14; go_must (refine (alive_any w6 (HT.out.keep HK6.out id)).mono ?_; rintro e w7 ⟨rfl, hk7⟩); (try simp only [Act.put, List.setIfInBounds_toArray, List.set_cons_zero, List.set_cons_succ]))
          )
          go_ret
          exact ⟨rfl, HK6.out.trans hk7 (fun _ _ h => h)⟩
        · by_cases hq1 : (own.length : Int) ≤ q
          · have hpf : plainF own (vs.take m) q = (0, 5) := by
              unfold plainF
              rw [if_neg (fun h => h Hc0.out), if_neg (fun h => h Hlb.out.1), if_neg (by rw [Hlb.out.2]; decide), if_pos (.inr hq1)]
            have Hpf := Lib.hid hpf
            clear hpf
            go_wp2_with (first
              | (go_at_call 11; go_must (refine Hrc.out.mono ?_; rintro e w4 ⟨rfl, hk4⟩)
                 have HK4 := Lib.hid (HK3.out.trans hk4 (fun _ _ h => h))
                 have Hr4 := Lib.hid (Hr3.out.keep (X' := fun k => w.heap.size ≤ k ∧ k < w1.heap.size) hk4 (fun _ _ _ => id) (fun _ _ h => h))
                 have Hv4 := Lib.hid (Hv3.out.keep (X' := fun _ => True) hk4 (fun _ _ _ => id) (fun _ _ h => h))
                 clear hk4
                 (try simp only [Act.put, List.setIfInBounds_toArray, List.set_cons_zero, List.set_cons_succ]))
              | (go_at_call 12
                 have hva := Values_any own (vs.take m) w4 _ _ _ _ Hr4.out Hv4.out h200
                 rw [Hvb.out] at hva
                 go_must (refine hva.mono ?_; rintro e w5 ⟨rfl, hw5⟩; obtain rfl := hw5.symm)
                 (try simp only [Act.put, List.setIfInBounds_toArray, List.set_cons_zero, List.set_cons_succ]))
              | (go_at_call 15
                 have hpl := Plain_any own (vs.take m) q w4 _ _ _ _ Hr4.out Hv4.out (fun _ => HT.out.keep HK4.out id)
                 rw [Hpf.out] at hpl
                 go_must (refine hpl.mono ?_; rintro e w6 ⟨rfl, hk6⟩)
                 have HK6 := Lib.hid (Keeps.trans HK4.out hk6 (fun _ _ h => h))
                 clear hk6
                 (try simp only [Act.put, List.setIfInBounds_toArray, List.set_cons_zero, List.set_cons_succ]))
              | (go_at_call 14; go_must (refine (alive_any w6 (HT.out.keep HK6.out id)).mono ?_; rintro e w7 ⟨rfl, hk7⟩); (try simp only [Act.put, List.setIfInBounds_toArray, List.set_cons_zero, List.set_cons_succ]))
            )
            go_ret
            exact ⟨rfl, HK6.out.trans hk7 (fun _ _ h => h)⟩
          · have hsame := plain_same Hc0.out Hlb.out.1 Hlb.out.2 (q := q) (by omega) (by omega)
            have Hq := Lib.hid (show InQ (envP own (vs.take m) own.length) q from ⟨by omega, by show q < own.length; omega⟩)
            obtain ⟨a, ha⟩ : ∃ a, refA own (vs.take m) q = a := ⟨_, rfl⟩
            rw [ha] at hsame
            have Ha := Lib.hid ha
            obtain ⟨an, ac, ae⟩ := a
            rcases hpf : plainF own (vs.take m) q with ⟨p1, p2⟩
            rw [hpf] at hsame
            obtain ⟨hs1, hs2, hs3⟩ := hsame
            simp only at hs1 hs2 hs3
            subst hs1
            have Hpf := Lib.hid hpf
            have Hs := Lib.hid (And.intro hs2 hs3)
            clear ha hpf hs2 hs3
            by_cases hcost : (3000 : Int) < ac
            · go_wp2_with (first
                | (go_at_call 11; go_must (refine Hrc.out.mono ?_; rintro e w4 ⟨rfl, hk4⟩)
                   have HK4 := Lib.hid (HK3.out.trans hk4 (fun _ _ h => h))
                   have Hr4 := Lib.hid (Hr3.out.keep (X' := fun k => w.heap.size ≤ k ∧ k < w1.heap.size) hk4 (fun _ _ _ => id) (fun _ _ h => h))
                   have Hv4 := Lib.hid (Hv3.out.keep (X' := fun _ => True) hk4 (fun _ _ _ => id) (fun _ _ h => h))
                   clear hk4
                   (try simp only [Act.put, List.setIfInBounds_toArray, List.set_cons_zero, List.set_cons_succ]))
                | (go_at_call 12
                   have hva := Values_any own (vs.take m) w4 _ _ _ _ Hr4.out Hv4.out h200
                   rw [Hvb.out] at hva
                   go_must (refine hva.mono ?_; rintro e w5 ⟨rfl, hw5⟩; obtain rfl := hw5.symm)
                   (try simp only [Act.put, List.setIfInBounds_toArray, List.set_cons_zero, List.set_cons_succ]))
                | (go_at_call 13; go_must (refine (RefPlain_any (plain_env Hc0.out Hlb.out.1 Hlb.out.2) w4 _ _ _ _ q Hr4.out Hv4.out Hq.out Ha.out).mono ?_; rintro e w5 ⟨rfl, hk5⟩)
                   have HK5 := Lib.hid (HK4.out.trans hk5 (fun _ _ h => h))
                   have Hr5 := Lib.hid (Hr4.out.keep (X' := fun k => w.heap.size ≤ k ∧ k < w1.heap.size) hk5 (fun _ _ _ => id) (fun _ _ h => h))
                   have Hv5 := Lib.hid (Hv4.out.keep (X' := fun _ => True) hk5 (fun _ _ _ => id) (fun _ _ h => h))
                   clear hk5
                   (try simp only [Act.put, List.setIfInBounds_toArray, List.set_cons_zero, List.set_cons_succ]))
                | (go_at_call 14; go_must (refine (alive_any w5 (HT.out.keep HK5.out id)).mono ?_; rintro e w7 ⟨rfl, hk7⟩); (try simp only [Act.put, List.setIfInBounds_toArray, List.set_cons_zero, List.set_cons_succ]))
              )
              go_ret
              exact ⟨rfl, HK5.out.trans hk7 (fun _ _ h => h)⟩
            · by_cases hae : p2 = 0
              · have hp1 := Hs.out.1 hae
                subst hp1
                subst hae
                go_wp2_with (first
                  | (go_at_call 11; go_must (refine Hrc.out.mono ?_; rintro e w4 ⟨rfl, hk4⟩)
                     have HK4 := Lib.hid (HK3.out.trans hk4 (fun _ _ h => h))
                     have Hr4 := Lib.hid (Hr3.out.keep (X' := fun k => w.heap.size ≤ k ∧ k < w1.heap.size) hk4 (fun _ _ _ => id) (fun _ _ h => h))
                     have Hv4 := Lib.hid (Hv3.out.keep (X' := fun _ => True) hk4 (fun _ _ _ => id) (fun _ _ h => h))
                     clear hk4
                     (try simp only [Act.put, List.setIfInBounds_toArray, List.set_cons_zero, List.set_cons_succ]))
                  | (go_at_call 12
                     have hva := Values_any own (vs.take m) w4 _ _ _ _ Hr4.out Hv4.out h200
                     rw [Hvb.out] at hva
                     go_must (refine hva.mono ?_; rintro e w5 ⟨rfl, hw5⟩; obtain rfl := hw5.symm)
                     (try simp only [Act.put, List.setIfInBounds_toArray, List.set_cons_zero, List.set_cons_succ]))
                  | (go_at_call 13; go_must (refine (RefPlain_any (plain_env Hc0.out Hlb.out.1 Hlb.out.2) w4 _ _ _ _ q Hr4.out Hv4.out Hq.out Ha.out).mono ?_; rintro e w5 ⟨rfl, hk5⟩)
                     have HK5 := Lib.hid (HK4.out.trans hk5 (fun _ _ h => h))
                     have Hr5 := Lib.hid (Hr4.out.keep (X' := fun k => w.heap.size ≤ k ∧ k < w1.heap.size) hk5 (fun _ _ _ => id) (fun _ _ h => h))
                     have Hv5 := Lib.hid (Hv4.out.keep (X' := fun _ => True) hk5 (fun _ _ _ => id) (fun _ _ h => h))
                     clear hk5
                     (try simp only [Act.put, List.setIfInBounds_toArray, List.set_cons_zero, List.set_cons_succ]))
                  | (go_at_call 15
                     have hpl := Plain_any own (vs.take m) q w5 _ _ _ _ Hr5.out Hv5.out (fun _ => HT.out.keep HK5.out id)
                     rw [Hpf.out] at hpl
                     go_must (refine hpl.mono ?_; rintro e w6 ⟨rfl, hk6⟩)
                     have HK6 := Lib.hid (Keeps.trans HK5.out hk6 (fun _ _ h => h))
                     clear hk6
                     (try simp only [Act.put, List.setIfInBounds_toArray, List.set_cons_zero, List.set_cons_succ]))
                  | (go_at_call 14; go_must (refine (alive_any w6 (HT.out.keep HK6.out id)).mono ?_; rintro e w7 ⟨rfl, hk7⟩); (try simp only [Act.put, List.setIfInBounds_toArray, List.set_cons_zero, List.set_cons_succ]))
                )
                go_ret
                exact ⟨rfl, HK6.out.trans hk7 (fun _ _ h => h)⟩
              · have hp1 := Hs.out.2 hae
                subst hp1
                have hne2 : (p2 != 0) = true := by simpa using hae
                have hze2 : (p2 == 0) = false := by simpa using hae
                clear hae
                go_wp2_with (first
                  | (go_at_call 11; go_must (refine Hrc.out.mono ?_; rintro e w4 ⟨rfl, hk4⟩)
                     have HK4 := Lib.hid (HK3.out.trans hk4 (fun _ _ h => h))
                     have Hr4 := Lib.hid (Hr3.out.keep (X' := fun k => w.heap.size ≤ k ∧ k < w1.heap.size) hk4 (fun _ _ _ => id) (fun _ _ h => h))
                     have Hv4 := Lib.hid (Hv3.out.keep (X' := fun _ => True) hk4 (fun _ _ _ => id) (fun _ _ h => h))
                     clear hk4
                     (try simp only [Act.put, List.setIfInBounds_toArray, List.set_cons_zero, List.set_cons_succ]))
                  | (go_at_call 12
                     have hva := Values_any own (vs.take m) w4 _ _ _ _ Hr4.out Hv4.out h200
                     rw [Hvb.out] at hva
                     go_must (refine hva.mono ?_; rintro e w5 ⟨rfl, hw5⟩; obtain rfl := hw5.symm)
                     (try simp only [Act.put, List.setIfInBounds_toArray, List.set_cons_zero, List.set_cons_succ]))
                  | (go_at_call 13; go_must (refine (RefPlain_any (plain_env Hc0.out Hlb.out.1 Hlb.out.2) w4 _ _ _ _ q Hr4.out Hv4.out Hq.out Ha.out).mono ?_; rintro e w5 ⟨rfl, hk5⟩)
                     have HK5 := Lib.hid (HK4.out.trans hk5 (fun _ _ h => h))
                     have Hr5 := Lib.hid (Hr4.out.keep (X' := fun k => w.heap.size ≤ k ∧ k < w1.heap.size) hk5 (fun _ _ _ => id) (fun _ _ h => h))
                     have Hv5 := Lib.hid (Hv4.out.keep (X' := fun _ => True) hk5 (fun _ _ _ => id) (fun _ _ h => h))
                     clear hk5
                     (try simp only [Act.put, List.setIfInBounds_toArray, List.set_cons_zero, List.set_cons_succ]))
                  | (go_at_call 15
                     have hpl := Plain_any own (vs.take m) q w5 _ _ _ _ Hr5.out Hv5.out (fun _ => HT.out.keep HK5.out id)
                     rw [Hpf.out] at hpl
                     go_must (refine hpl.mono ?_; rintro e w6 ⟨rfl, hk6⟩)
                     have HK6 := Lib.hid (Keeps.trans HK5.out hk6 (fun _ _ h => h))
                     clear hk6
                     (try simp only [Act.put, List.setIfInBounds_toArray, List.set_cons_zero, List.set_cons_succ]))
                  | (go_at_call 14; go_must (refine (alive_any w6 (HT.out.keep HK6.out id)).mono ?_; rintro e w7 ⟨rfl, hk7⟩); (try simp only [Act.put, List.setIfInBounds_toArray, List.set_cons_zero, List.set_cons_succ]))
                )
                go_ret
                exact ⟨rfl, HK6.out.trans hk7 (fun _ _ h => h)⟩
    · have hne : (c2 != 0) = true := by simpa using hc0
      have hze : (c2 == 0) = false := by simpa using hc0
      have hpf : plainF own (vs.take m) q = (0, c2) := by unfold plainF; rw [if_pos (by rw [Hck.out]; exact hc0), Hck.out]
      have Hpf := Lib.hid hpf
      clear hpf hc0
      go_wp2_with (first
        | (go_at_call 11; go_must (refine Hrc.out.mono ?_; rintro e w4 ⟨rfl, hk4⟩)
           have HK4 := Lib.hid (HK3.out.trans hk4 (fun _ _ h => h))
           have Hr4 := Lib.hid (Hr3.out.keep (X' := fun k => w.heap.size ≤ k ∧ k < w1.heap.size) hk4 (fun _ _ _ => id) (fun _ _ h => h))
           have Hv4 := Lib.hid (Hv3.out.keep (X' := fun _ => True) hk4 (fun _ _ _ => id) (fun _ _ h => h))
           clear hk4
           (try simp only [Act.put, List.setIfInBounds_toArray, List.set_cons_zero, List.set_cons_succ]))
        | (go_at_call 15
           have hpl := Plain_any own (vs.take m) q w4 _ _ _ _ Hr4.out Hv4.out (fun _ => HT.out.keep HK4.out id)
           rw [Hpf.out] at hpl
           go_must (refine hpl.mono ?_; rintro e w6 ⟨rfl, hk6⟩)
           have HK6 := Lib.hid (Keeps.trans HK4.out hk6 (fun _ _ h => h))
           clear hk6
           (try simp only [Act.put, List.setIfInBounds_toArray, List.set_cons_zero, List.set_cons_succ]))
        | (go_at_call 14; go_must (refine (alive_any w6 (HT.out.keep HK6.out id)).mono ?_; rintro e w7 ⟨rfl, hk7⟩); (try simp only [Act.put, List.setIfInBounds_toArray, List.set_cons_zero, List.set_cons_succ]))
      )
      go_ret
      exact ⟨rfl, HK6.out.trans hk7 (fun _ _ h => h)⟩
end Go.Proofs.QW
