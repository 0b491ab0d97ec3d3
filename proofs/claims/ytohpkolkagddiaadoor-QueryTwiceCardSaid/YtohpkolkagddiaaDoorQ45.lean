/-
  What was set (inputs), in memory. Condition: the engine and its rules lie.
-/
import Derived.Test.YtohpkolkagddiaaDoorQ44
namespace Go.Proofs.QW
open Go.RowKit Go.Proofs.KL Go.Proofs.QM
set_option maxRecDepth 100000
set_option linter.unusedSimpArgs false
set_option linter.unusedVariables false

theorem made3 {n i : Nat} (hi : i < n) : (madeCells (Value.int .i64 0).cells (n * 1))[i]? = some (.int .i64 0) := by
  refine (madeCells_get (z := .int .i64 0) (sz := 1) rfl (by decide) (by omega : i < n * 1)).trans ?_
  simp only [Nat.mod_one]; rfl
theorem ints_block {w : World} {g n : Nat} {cs : Array Value} {xs : List Int} (hb : w.heap[g]? = some (.cells cs 3 (0, 0))) (hl : xs.length = n) (hx : ∀ i, i < n → cs[i]? = some (.int .i64 (xs.getD i 0))) (X : Nat → Prop) (hX : X g) : IntsX w X (.slice (some ⟨g, 0, none⟩) n n) xs :=
  ⟨some ⟨g, 0, none⟩, n, by rw [hl], by omega, fun i hi => ⟨g, 0, rfl, hX, by rw [blk_cell hb, Nat.zero_add]; exact hx i (by omega)⟩⟩
set_option maxHeartbeats 4000000 in
/-- INPUTS. -/
theorem inputs_any (E : Env) (ans : List (Option KeptR)) (w : World) (X Y : Nat → Prop) (eb ib mb : Nat) (rv : Value) (he : EngAt w X eb ib mb E ans) (hr : RulesX w Y rv E.rules) (h200 : E.rules.length ≤ 200) :
    Calls Tryd.prog 17 #[.pointer (some ⟨eb, 0, none⟩), rv] w fun e w' => ∃ lv, e = .returned lv ∧ Keeps Nob w w' ∧ IntsX w' (fun k => w.heap.size ≤ k ∧ k < w'.heap.size) lv (inputsF E) := by
  obtain ⟨A, c, rfl, hcc, hcell⟩ := id hr
  have Hcell := Lib.hid hcell
  have HE := Lib.hid he
  have hig : ∀ i, i < E.rules.length → (inputsF E).getD i 0 = if (E.rules.getD i default).kind = 1 then E.inp.getD i 0 else 0 := fun i hi => inputsF_get E hi
  have Hig := Lib.hid hig
  have Hil := Lib.hid (inputsF_length E)
  obtain ⟨n, hn⟩ : ∃ n, E.rules.length = n := ⟨_, rfl⟩
  have Hn := Lib.hid hn
  rw [hn] at h200 hcc ⊢
  obtain ⟨i3, hi3, hs3⟩ := infoS3
  obtain ⟨i72, hi72, hs72⟩ := info72
  have HI := Lib.hid (And.intro (And.intro hi3 hs3) (And.intro hi72 hs72))
  clear hr hcell he hig hn hi3 hs3 hi72 hs72
  go_enter Tryd.func17, Tryd.ntmps17
  go_wp2_with ((with_reducible refine at_dst (N := 10) rfl ?_); go_must (refine ev_makeSlice rfl rfl n rfl rfl Tryd.underlying23 info3 rfl (by decide) (by omega) (by omega) ?_; intro gm w1 hgm hlm hbm hkm); have Hbm := Lib.hid hbm; clear hbm; (try simp only [Act.put, List.setIfInBounds_toArray, List.set_cons_zero, List.set_cons_succ]))
  have Hk1 := Lib.hid hkm
  have Hg := Lib.hid (show w.heap.size ≤ gm ∧ gm < w1.heap.size from ⟨hgm, hlm⟩)
  clear hkm hgm hlm
  go_loopw [13] (fun v wr => ∃ (k : Nat) (cs : Array Value), v = .int .i64 k ∧ k ≤ n ∧ Hid (Keeps Nob w wr) ∧ Hid (wr.heap[gm]? = some (.cells cs 3 (0, 0))) ∧ Hid (∀ i, i < n → cs[i]? = some (.int .i64 (if i < k then (inputsF E).getD i 0 else 0))))
    (fun v _ => n - (intOf v).toNat)
  case atStart => exact ⟨0, _, rfl, Nat.zero_le _, Hk1, Hbm, Lib.hid (fun i hi => by rw [if_neg (by omega)]; exact made3 hi)⟩
  case round =>
    obtain ⟨k, cs, rfl, hk, hkeep, hblk, hcs⟩ := hrel
    by_cases hlt : k < n
    · obtain ⟨b, o, u, rfl, -, e0, e1, e2, hu⟩ := Hcell.out k (by rw [Hn.out]; exact hlt)
      have e0 := hkeep.out.cell e0 id
      have e1 := hkeep.out.cell e1 id
      have e2 := hkeep.out.cell e2 id
      obtain ⟨uA, uc, rfl, -, -⟩ := id hu
      have hgk := Hig.out k (by rw [Hn.out]; exact hlt)
      have hkind : (E.rule (k : Int)) = E.rules.getD k default := by unfold Env.rule; rw [Int.toNat_natCast]
      have hsz := pget_size (hcs.out k hlt)
      have Hsz := Lib.hid hsz
      generalize hrd : E.rules.getD k default = r at *
      have Hkind := Lib.hid hkind
      clear hu hkind hsz hrd
      by_cases hk1 : r.kind = 1
      · have hkb : (r.kind == 1) = true := by rw [hk1]; rfl
        rw [if_pos hk1] at hgk
        have hkv : keptVal E ans (k : Int) = (E.inp.getD k 0, true) := by
          unfold keptVal
          rw [if_neg (by unfold isErr; rw [if_neg (by have := Hn.out; omega)]; decide), if_pos (by rw [Hkind.out]; exact hk1), Int.toNat_natCast]
        generalize E.inp.getD k 0 = x at *
        have Hgk := Lib.hid hgk
        have Hkv := Lib.hid hkv
        clear hgk hkv hk1
        go_wp2_with (first
          | ((with_reducible refine at_dst (N := 7) rfl ?_); go_must (refine ev_alloc rfl rfl zero72 rfl ?_; intro g7 w2 hg7 hl7 hb7 hk7); have Hb7 := Lib.hid hb7; clear hb7; (try simp only [Act.put, List.setIfInBounds_toArray, List.set_cons_zero, List.set_cons_succ]))
          | ((with_reducible refine at_store (t := 72) rfl ?_); go_must (refine ev_store (cs' := #[.int .i64 r.kind, .int .i64 r.n, .slice uA r.asks.length uc]) rfl rfl rfl rfl rfl rfl HI.out.2.1 HI.out.2.2 rfl Hb7.out (Nat.le_of_ble_eq_true rfl) rfl ?_; intro w3 hb3 hk3)
             have f0 := (blk_cell hb3 0).trans rfl
             have HK3 := Lib.hid (show Keeps Nob wr w3 from hk7.own hk3 hg7)
             clear hb3
             (try simp only [Act.put, List.setIfInBounds_toArray, List.set_cons_zero, List.set_cons_succ]))
          | (go_at_call 19
             have hrun := Kept_any X eb ib mb E ans k w3 ((HE.out.after hkeep.out).after HK3.out) (by rw [Hn.out]; exact h200)
             rw [Hkv.out] at hrun
             go_must (refine hrun.mono ?_; rintro e w4 ⟨rfl, hk4⟩)
             have Hblk4 := Lib.hid (hk4.blk (HK3.out.blk hblk.out id) id)
             have HK4 := Lib.hid (HK3.out.trans hk4 (fun _ _ h => h))
             clear hrun hk4
             (try simp only [Act.put, List.setIfInBounds_toArray, List.set_cons_zero, List.set_cons_succ]))
          | ((with_reducible refine at_store (t := 3) rfl ?_)
             go_must (refine ev_store (x := .int .i64 x) (vs := [.int .i64 x]) (off := k) (cs' := List.toArray (cs.toList.take k ++ [Value.int .i64 x] ++ cs.toList.drop (k + [Value.int .i64 x].length))) rfl rfl rfl rfl rfl rfl HI.out.1.1 HI.out.1.2 rfl Hblk4.out (by have := Hsz.out; exact this) rfl ?_; intro w5 hb5 hk5)
             (try simp only [Act.put, List.setIfInBounds_toArray, List.set_cons_zero, List.set_cons_succ])))
        refine ⟨⟨k + 1, _, by go_num, by omega, Lib.hid ((hkeep.out.trans HK4.out (fun _ _ h => h)).own hk5 Hg.out.1), Lib.hid hb5, Lib.hid (fun i hi => ?_)⟩, by simp [intOf]; omega⟩
        rw [psplice_get (by have := Hsz.out; exact this)]
        by_cases e : i = k
        · subst e
          rw [if_pos (by simp), if_pos (by omega), Hgk.out]; simp
        · rw [if_neg (by simp; omega), hcs.out i hi]
          by_cases h : i < k
          · rw [if_pos h, if_pos (by omega)]
          · rw [if_neg h, if_neg (by omega)]
      · have hkb : (r.kind == 1) = false := by simpa using hk1
        rw [if_neg hk1] at hgk
        have Hgk := Lib.hid hgk
        clear hgk hk1
        go_wp2_with (first
          | ((with_reducible refine at_dst (N := 7) rfl ?_); go_must (refine ev_alloc rfl rfl zero72 rfl ?_; intro g7 w2 hg7 hl7 hb7 hk7); have Hb7 := Lib.hid hb7; clear hb7; (try simp only [Act.put, List.setIfInBounds_toArray, List.set_cons_zero, List.set_cons_succ]))
          | ((with_reducible refine at_store (t := 72) rfl ?_); go_must (refine ev_store (cs' := #[.int .i64 r.kind, .int .i64 r.n, .slice uA r.asks.length uc]) rfl rfl rfl rfl rfl rfl HI.out.2.1 HI.out.2.2 rfl Hb7.out (Nat.le_of_ble_eq_true rfl) rfl ?_; intro w3 hb3 hk3)
             have f0 := (blk_cell hb3 0).trans rfl
             have HK3 := Lib.hid (show Keeps Nob wr w3 from hk7.own hk3 hg7)
             clear hb3
             (try simp only [Act.put, List.setIfInBounds_toArray, List.set_cons_zero, List.set_cons_succ])))
        refine ⟨⟨k + 1, cs, by go_num, by omega, Lib.hid (hkeep.out.trans HK3.out (fun _ _ h => h)), Lib.hid (HK3.out.blk hblk.out id), Lib.hid (fun i hi => ?_)⟩, by simp [intOf]; omega⟩
        rw [hcs.out i hi]
        by_cases e : i = k
        · subst e; rw [if_neg (by omega), if_pos (by omega), Hgk.out]
        · by_cases h : i < k
          · rw [if_pos h, if_pos (by omega)]
          · rw [if_neg h, if_neg (by omega)]
    · have hk' : k = n := by omega
      subst hk'
      go_wp2
      go_ret
      refine ⟨_, rfl, hkeep.out, ints_block hblk.out (by rw [Hil.out, Hn.out]) (fun i hi => by rw [hcs.out i hi, if_pos hi]) _ ⟨Hg.out.1, blk_lt hblk.out⟩⟩
end Go.Proofs.QW
