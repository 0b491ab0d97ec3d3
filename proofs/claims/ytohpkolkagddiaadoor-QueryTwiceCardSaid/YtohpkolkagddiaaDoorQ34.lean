/-
  A copy of rules that are not too many (Cut, cut), in memory. Condition: rules lie.
-/
import Derived.Test.YtohpkolkagddiaaDoorQ33
namespace Go.Proofs.QW
open Go.RowKit Go.Proofs.KL Go.Proofs.QM
set_option maxRecDepth 100000
set_option linter.unusedSimpArgs false
set_option linter.unusedVariables false

def cutRule (r : QRule) : QRule := { r with asks := r.asks.take 14 }
def cutAt (n : Nat) (rs : List QRule) : List QRule := (rs.take n).map cutRule
set_option maxHeartbeats 4000000 in
/-- CUT. -/
theorem Cut_any (rs : List QRule) (w : World) (X : Nat → Prop) (rv : Value) (hr : RulesX w X rv rs) :
    Calls Tryd.prog 33 #[rv] w fun e w' => ∃ v', e = .returned v' ∧ Keeps Nob w w' ∧ RulesX w' (fun k => w.heap.size ≤ k ∧ k < w'.heap.size) v' (cutAt 202 rs) := by
  obtain ⟨A, c, rfl, hcc, hcell⟩ := id hr
  obtain ⟨i72, hi72, hs72⟩ := info72
  have HI := Lib.hid (And.intro hi72 hs72)
  have Hcell := Lib.hid hcell
  obtain ⟨rl, hrl⟩ : ∃ x, rs.length = x := ⟨_, rfl⟩
  rw [hrl] at hcc ⊢
  have Hrl := Lib.hid hrl
  clear hr hcell hrl hi72 hs72
  go_enter Tryd.func33, Tryd.ntmps33
  go_wp2
  go_loopw [3, 4] (fun ov v wr => ∃ (k : Nat) (ps : List (QRule × Value)), v = .int .i64 k ∧ k ≤ rl ∧ k ≤ 202 ∧ ps.length = k ∧ Hid (Keeps Nob w wr) ∧ Hid (ps.map (·.1) = (rs.take k).map cutRule) ∧ Hid (wr.ownsRow 0 72 3 ov ps.length (flat ps)) ∧ Hid (∀ b, ov.ownBlock = some b → w.heap.size ≤ b) ∧ Hid (∀ p ∈ ps, IntsX wr (fun b => w.heap.size ≤ b ∧ b < wr.heap.size ∧ ¬ some b = ov.ownBlock) p.2 p.1.asks))
    (fun _ v _ => rl - (intOf v).toNat)
  case atStart => exact ⟨0, [], rfl, Nat.zero_le _, Nat.zero_le _, rfl, Lib.hid (Keeps.refl _ _), Lib.hid rfl, Lib.hid ⟨rfl, .inl ⟨rfl, rfl⟩⟩, Lib.hid (fun b h => by cases h), Lib.hid (fun p h => by cases h)⟩
  case round =>
    obtain ⟨k, ps, rfl, hk, hk202, hpl, hkeep, hmap, hown, hob, hin⟩ := hrel
    by_cases hlt : k < rl
    · by_cases hlt2 : k < 202
      · obtain ⟨b, o, u, rfl, hb, e0, e1, e2, hu⟩ := Hcell.out k (by rw [Hrl.out]; exact hlt)
        have e0 := hkeep.out.cell e0 id
        have e1 := hkeep.out.cell e1 id
        have e2 := hkeep.out.cell e2 id
        have hu' := hu.keep (X' := X) hkeep.out (fun _ _ _ => id) (fun _ _ h => h)
        obtain ⟨uA, uc, rfl, huc, huu⟩ := id hu
        have Hu := Lib.hid hu'
        have Huc := Lib.hid huc
        have hnone : uA = none → (rs.getD k default).asks.length = 0 := fun e => by
          rcases Nat.eq_zero_or_pos (rs.getD k default).asks.length with h | h
          · exact h
          · obtain ⟨b, o, h2, _⟩ := huu 0 h; rw [e] at h2; cases h2
        have Hnone := Lib.hid hnone
        clear hu hu' hb huu hnone
        generalize hrd : rs.getD k default = r at *
        have Hrd := Lib.hid hrd
        clear hrd
        obtain ⟨m, hm⟩ : ∃ m : Nat, m = min r.asks.length 14 := ⟨_, rfl⟩
        have hmin : (if (14 : Int) < (r.asks.length : Int) then (14 : Int) else (r.asks.length : Int)) = (m : Int) := by split <;> omega
        have Hm := Lib.hid hm
        have hm1 : m ≤ r.asks.length := by omega
        have hm2 : m ≤ 14 := by omega
        have hm3 : m ≤ uc := by omega
        clear hm
        go_wp2_with (first
          | ((with_reducible refine at_dst (N := 5) rfl ?_); go_must (refine ev_alloc rfl rfl zero72 rfl ?_; intro g5 w1 hg5 hl5 hb5 hk1); have Hb5 := Lib.hid hb5; clear hb5; (try simp only [Act.put, List.setIfInBounds_toArray, List.set_cons_zero, List.set_cons_succ]))
          | ((with_reducible refine at_store (t := 72) rfl ?_); go_must (refine ev_store (cs' := #[.int .i64 r.kind, .int .i64 r.n, .slice uA r.asks.length uc]) rfl rfl rfl rfl rfl rfl HI.out.1 HI.out.2 rfl Hb5.out (Nat.le_of_ble_eq_true rfl) rfl ?_; intro w2 hb2 hk2); have f0 := (blk_cell hb2 0).trans rfl; have f1 := (blk_cell hb2 1).trans rfl; have f2 := (blk_cell hb2 2).trans rfl
             have hk12 : Keeps Nob wr w2 := hk1.own hk2 hg5
             have HK12 := Lib.hid hk12
             clear hk12 hb2
             (try simp only [Act.put, List.setIfInBounds_toArray, List.set_cons_zero, List.set_cons_succ])))
        cases uA with
        | none =>
          have h0 := Hnone.out rfl
          have hm0 : m = 0 := by omega
          have hnews : ∀ j u, ((r.asks.take m).map (Value.int .i64))[j]? = some u → ∀ ad', (none : Option Addr) = some ad' → wr.cell? (ad'.add j) = some u := fun j u hj ad' had => by
            have hlt : j < m ∧ j < r.asks.length := by
              have := (List.getElem?_eq_some_iff.1 hj).1
              rw [List.length_map, List.length_take] at this
              omega
            obtain ⟨A', c', h1, _, h3⟩ := Hu.out
            injection h1 with h1 _ _
            obtain ⟨b, o, h, _, hc⟩ := h3 j hlt.2
            rw [← h1, had] at h
            injection h with h
            subst h
            have hu : u = .int .i64 (r.asks.getD j 0) := by
              rw [List.getElem?_map, List.getElem?_take, if_pos hlt.1, List.getElem?_eq_getElem hlt.2] at hj
              simp at hj
              rw [← hj, List.getD_eq_getElem?_getD, List.getElem?_eq_getElem hlt.2]; rfl
            rw [hu]
            by_cases h0 : j = 0
            · subst h0; simpa [Addr.add] using hc
            · simpa [Addr.add, h0] using hc
          have Hnews := Lib.hid hnews
          clear hnews
          refine wp_region_perm [(0, true), (1, true), (2, true), (3, true), (4, true), (6, true), (7, true), (8, true), (9, true), (10, true), (11, true), (12, true), (5, false), (13, false), (14, true), (15, false), (16, false), (17, true)] (fun w' => w'.cell? ⟨g5, 0, none⟩ = some (.int .i64 r.kind) ∧ w'.cell? ⟨g5, 1, none⟩ = some (.int .i64 r.n) ∧ w'.cell? ⟨g5, 2, none⟩ = some (.slice (none) r.asks.length uc)) rfl (by kernel_rfl) (by kernel_rfl) (by decide) (fun c a d v w h => by cases d <;> exact h) ⟨f0, f1, f2⟩ ?_
          refine perm_q (v := ?v1_0) (some 20) rfl rfl rfl ?q1_0 ?h1_0; (case q1_0 => (intro w' hS; obtain ⟨s1, s2, s3⟩ := hS; first | (go_simp; done) | (go_simp; rfl))); (try simp only [Act.put, List.setIfInBounds_toArray, List.set_cons_zero, List.set_cons_succ])
          refine perm_q (v := ?v1_1) (some 21) rfl rfl rfl ?q1_1 ?h1_1; (case q1_1 => (intro w' hS; obtain ⟨s1, s2, s3⟩ := hS; first | (go_simp; done) | (go_simp; rfl))); (try simp only [Act.put, List.setIfInBounds_toArray, List.set_cons_zero, List.set_cons_succ])
          refine perm_q (v := ?v1_2) (some 22) rfl rfl rfl ?q1_2 ?h1_2; (case q1_2 => (intro w' hS; obtain ⟨s1, s2, s3⟩ := hS; first | (go_simp; done) | (go_simp; rfl))); (try simp only [Act.put, List.setIfInBounds_toArray, List.set_cons_zero, List.set_cons_succ])
          refine perm_q (v := ?v1_3) (some 23) rfl rfl rfl ?q1_3 ?h1_3; (case q1_3 => (intro w' hS; obtain ⟨s1, s2, s3⟩ := hS; first | (go_simp; done) | (go_simp; rfl))); (try simp only [Act.put, List.setIfInBounds_toArray, List.set_cons_zero, List.set_cons_succ])
          refine perm_q (v := ?v1_4) (some 24) rfl rfl rfl ?q1_4 ?h1_4; (case q1_4 => (intro w' hS; obtain ⟨s1, s2, s3⟩ := hS; first | (go_simp; done) | (go_simp; rfl))); (try simp only [Act.put, List.setIfInBounds_toArray, List.set_cons_zero, List.set_cons_succ])
          refine perm_q (v := ?v1_6) (some 26) rfl rfl rfl ?q1_6 ?h1_6; (case q1_6 => (intro w' hS; obtain ⟨s1, s2, s3⟩ := hS; first | (go_simp; done) | (go_simp; rfl))); (try simp only [Act.put, List.setIfInBounds_toArray, List.set_cons_zero, List.set_cons_succ])
          refine perm_q (v := ?v1_7) (some 27) rfl rfl rfl ?q1_7 ?h1_7; (case q1_7 => (intro w' hS; obtain ⟨s1, s2, s3⟩ := hS; first | (go_simp; done) | (go_simp; rfl))); (try simp only [Act.put, List.setIfInBounds_toArray, List.set_cons_zero, List.set_cons_succ])
          refine perm_q (v := ?v1_8) (some 28) rfl rfl rfl ?q1_8 ?h1_8; (case q1_8 => (intro w' hS; obtain ⟨s1, s2, s3⟩ := hS; first | (go_simp; done) | (go_simp; rfl))); (try simp only [Act.put, List.setIfInBounds_toArray, List.set_cons_zero, List.set_cons_succ])
          refine perm_q (v := ?v1_9) (some 29) rfl rfl rfl ?q1_9 ?h1_9; (case q1_9 => (intro w' hS; obtain ⟨s1, s2, s3⟩ := hS; first | (go_simp; done) | (go_simp; rfl))); (try simp only [Act.put, List.setIfInBounds_toArray, List.set_cons_zero, List.set_cons_succ])
          refine perm_q (v := ?v1_10) (some 30) rfl rfl rfl ?q1_10 ?h1_10; (case q1_10 => (intro w' hS; obtain ⟨s1, s2, s3⟩ := hS; first | (go_simp; done) | (go_simp; rfl))); (try simp only [Act.put, List.setIfInBounds_toArray, List.set_cons_zero, List.set_cons_succ])
          refine perm_q (v := ?v1_11) (some 31) rfl rfl rfl ?q1_11 ?h1_11; (case q1_11 => (intro w' hS; obtain ⟨s1, s2, s3⟩ := hS; first | (go_simp; done) | (go_simp; rfl))); (try simp only [Act.put, List.setIfInBounds_toArray, List.set_cons_zero, List.set_cons_succ])
          refine perm_q (v := ?v1_12) (some 32) rfl rfl rfl ?q1_12 ?h1_12; (case q1_12 => (intro w' hS; obtain ⟨s1, s2, s3⟩ := hS; first | (go_simp; done) | (go_simp; rfl))); (try simp only [Act.put, List.setIfInBounds_toArray, List.set_cons_zero, List.set_cons_succ])
          refine perm_e rfl ?_   -- 5: buildSlice 23 0 []
          go_must (refine ev_slice (cs := #[]) (t := 3) (n := 0) (c := 0) rfl (by first | (go_simp; done) | (go_simp; rfl)) ?_; intro gB w3 hgB hlB hbB hk3)
          have HbB := Lib.hid hbB
          clear hbB
          (try simp only [Act.put, List.setIfInBounds_toArray, List.set_cons_zero, List.set_cons_succ])
          have f0 := hk3.cell (w := w2.drew) f0 id
          have f1 := hk3.cell (w := w2.drew) f1 id
          have f2 := hk3.cell (w := w2.drew) f2 id
          have HK3 := Lib.hid ((HK12.out.drew).trans hk3 (fun _ _ h => h))
          refine wpList_nil ⟨⟨f0, f1, f2⟩, ?_⟩
          refine perm_e rfl ?_   -- 13: call append(t25, t32) :#[23, 23]
          go_must (refine ev_append (W := w3) (xs := []) (n := 0) (m := 0) (news := (r.asks.take m).map (Value.int .i64)) rfl rfl Tryd.underlying23 info3 rfl (by decide) (base := 0) rfl ⟨rfl, .inr ⟨gB, 0, #[], rfl, Nat.zero_le _, HbB.out, Nat.le_refl _, Nat.zero_le _, rfl, rfl⟩⟩ rfl (by rw [List.length_map, List.length_take]; omega) (fun h => absurd h (by omega)) (fun u hu => by obtain ⟨x, _, rfl⟩ := List.mem_map.1 hu; rfl) (by omega) (by decide) (Nat.zero_le _) ?_; intro cv w4 hown4 hk4 hr4 hf4; obtain ⟨cA, cc, rfl⟩ := own_slice hown4)
          have Hown4 := Lib.hid hown4
          have Hr4 := Lib.hid hr4
          have HgB := Lib.hid (show w2.heap.size ≤ gB ∧ wr.heap.size ≤ gB from ⟨hgB, by have h1 := HK12.out.size; have h2 : w2.heap.size ≤ gB := hgB; omega⟩)
          have HK4 := Lib.hid (HK3.out.trans hk4 (fun i hi e => by have h1 := HgB.out; have e : some i = some gB := e; injection e with e; omega))
          have hg5B : ¬ some g5 = Value.ownBlock (.slice (some ⟨gB, 0, none⟩) 0 0) := fun e => by have e : some g5 = some gB := e; injection e with e; have h1 := HgB.out; have h2 := World.block_lt_of_cell? _ _ f0; have h3 : g5 < w2.heap.size := (by have h4 := hk2.size; omega); omega
          clear hown4 hf4 hr4
          (try simp only [Act.put, List.setIfInBounds_toArray, List.set_cons_zero, List.set_cons_succ])
          have f0 := hk4.cell f0 hg5B
          have f1 := hk4.cell f1 hg5B
          have f2 := hk4.cell f2 hg5B
          refine wpList_nil ⟨⟨f0, f1, f2⟩, ?_⟩
          refine perm_q (v := ?v1_14) (some 34) rfl rfl rfl ?q1_14 ?h1_14; (case q1_14 => (intro w' hS; obtain ⟨s1, s2, s3⟩ := hS; first | (go_simp; done) | (go_simp; rfl))); (try simp only [Act.put, List.setIfInBounds_toArray, List.set_cons_zero, List.set_cons_succ])
          refine perm_e rfl ?_   -- 15: buildSlice 22 1 [(0, t34)]
          go_must (refine ev_slice (cs := #[.int .i64 r.kind, .int .i64 r.n, .slice cA (0 + 0) cc]) (t := 72) (n := 1) (c := 1) rfl (by first | (go_simp; done) | (go_simp; rfl)) ?_; intro g6 w5 hg6 hl6 hb6 hk6)
          have Hb6 := Lib.hid hb6
          clear hb6
          (try simp only [Act.put, List.setIfInBounds_toArray, List.set_cons_zero, List.set_cons_succ])
          have f0 := hk6.cell f0 id
          have f1 := hk6.cell f1 id
          have f2 := hk6.cell f2 id
          have HK15 := Lib.hid (HK4.out.trans hk6 (fun _ _ h => h))
          refine wpList_nil ⟨⟨f0, f1, f2⟩, ?_⟩
          refine perm_e rfl ?_   -- 16: call append(t20, t35) :#[22, 22]
          go_must (refine ev_append (W := w5) rfl rfl Tryd.underlying22 info72b rfl (by decide) (base := 0) rfl (ownsRow_keep hown.out HK15.out (fun _ _ => id)) (news := [.int .i64 r.kind, .int .i64 r.n, .slice cA (0 + 0) cc]) rfl rfl (fun _ => ⟨_, rfl, World.news_of_block Hb6.out⟩) (by simp [Value.oneCell']) (by omega) (by decide) (Nat.zero_le _) ?_; intro ov6 w6 hown6 hk7 hr6 hf6)
          have Hown6 := Lib.hid hown6
          have Hr6 := Lib.hid hr6
          have hk7 : Keeps (fun k => some k = u3.ownBlock) w5 w6 := hk7
          have ho := fun b hb => (own_lt hown.out b hb).1
          have lg5 : wr.heap.size ≤ g5 ∧ g5 < w2.heap.size := ⟨hg5, by have h4 := hk2.size; omega⟩
          have z15 := HK15.out.size
          have hg5o : ¬ some g5 = u3.ownBlock := fun e => by have := ho g5 e.symm; omega
          (try simp only [Act.put, List.setIfInBounds_toArray, List.set_cons_zero, List.set_cons_succ])
          have f0 := hk7.cell f0 hg5o
          have f1 := hk7.cell f1 hg5o
          have f2 := hk7.cell f2 hg5o
          refine wpList_nil ⟨⟨f0, f1, f2⟩, ?_⟩
          refine perm_q (v := ?v1_17) (some 3) rfl rfl rfl ?q1_17 ?h1_17; (case q1_17 => (intro w' hS; obtain ⟨s1, s2, s3⟩ := hS; first | (go_simp; done) | (go_simp; rfl))); (try simp only [Act.put, List.setIfInBounds_toArray, List.set_cons_zero, List.set_cons_succ])
          refine perm_nil ?_
          clear f0 f1 f2
          go_wp2
          have z0 := hkeep.out.size
          have hk7' : Keeps Nob w w6 := (hkeep.out.trans HK15.out (fun _ _ h => h)).trans hk7 (fun i hi e => absurd (hob.out i e.symm) (by omega))
          refine ⟨⟨k + 1, ps ++ [(cutRule r, .slice cA (0 + 0) cc)], by go_num, by omega, by omega, by simp [hpl], Lib.hid hk7', Lib.hid ?_, Lib.hid ?_, Lib.hid (fun b hb => ?_), Lib.hid (fun p hp => ?_)⟩, by simp [intOf]; omega⟩
          · rw [List.map_append, hmap.out, List.take_succ_eq_append_getElem (by rw [Hrl.out]; exact hlt), List.map_append]
            have := Hrd.out
            rw [List.getD_eq_getElem?_getD, List.getElem?_eq_getElem (by rw [Hrl.out]; exact hlt)] at this
            simp at this
            simp [this]
          · have := Hown6.out
            rw [List.length_append]
            simpa [flat, cutRule] using this
          · rcases Hr6.out with h | ⟨b', h, hl'⟩
            · exact hob.out b (show u3.ownBlock = some b from h.symm.trans hb)
            · rw [h] at hb; injection hb with hb; omega
          · have hfree : ∀ b, b < w5.heap.size → ¬ some b = Value.ownBlock (u3) → ¬ some b = ov6.ownBlock := fun b hb hn e => by
              rcases Hr6.out with h | ⟨b', h, hl'⟩
              · exact hn (e.trans h)
              · rw [h] at e; injection e with e; omega
            rcases List.mem_append.1 hp with hp | hp
            · exact ((hin.out p hp).keep (X' := fun b => w.heap.size ≤ b ∧ b < wr.heap.size ∧ ¬ some b = Value.ownBlock u3) HK15.out (fun _ _ _ => id) (fun _ _ h => h)).keep hk7 (fun b _ hx => hx.2.2) (fun b _ hx => ⟨hx.1, by have := hx.2.1; have := hk7.size; omega, hfree b (by have := hx.2.1; omega) hx.2.2⟩)
            · rw [List.mem_singleton.1 hp]
              have hi4 : IntsX w4 (fun b => wr.heap.size ≤ b ∧ b < w4.heap.size) (.slice cA (0 + 0) cc) (cutRule r).asks := by
                have hl : (r.asks.take m).length = 0 + 0 := by rw [List.length_take]; omega
                have e : (cutRule r).asks = r.asks.take m := by show r.asks.take 14 = _; rw [Hm.out]; rcases Nat.le_total r.asks.length 14 with h | h; rw [Nat.min_eq_left h, List.take_of_length_le h, List.take_of_length_le (Nat.le_refl _)]; rw [Nat.min_eq_right h]
                rw [e]
                refine IntsX.own (xs := r.asks.take m) (by rw [hl]; exact Hown4.out) _ (fun k hkk => ⟨?_, (own_lt Hown4.out k hkk.symm).1⟩)
                rcases Hr4.out with h | ⟨b, h, hl⟩
                · rw [h] at hkk; have e : some k = some gB := hkk; injection e with e; have := HgB.out; omega
                · rw [h] at hkk; injection hkk with hkk; have := HK3.out.size; omega
              exact (hi4.keep (X' := fun b => wr.heap.size ≤ b ∧ b < w4.heap.size) hk6 (fun _ _ _ => id) (fun _ _ h => h)).keep hk7 (fun b _ hx e => by have := ho b e.symm; have := hx.1; omega) (fun b _ hx => ⟨by have := hx.1; omega, by have := hx.2; have := hk6.size; have := hk7.size; omega, hfree b (by have := hx.2; have := hk6.size; omega) (fun e => by have := ho b e.symm; have := hx.1; omega)⟩)
        | some ad =>
          have hnews : ∀ j u, ((r.asks.take m).map (Value.int .i64))[j]? = some u → ∀ ad', (some ad : Option Addr) = some ad' → wr.cell? (ad'.add j) = some u := fun j u hj ad' had => by
            have hlt : j < m ∧ j < r.asks.length := by
              have := (List.getElem?_eq_some_iff.1 hj).1
              rw [List.length_map, List.length_take] at this
              omega
            obtain ⟨A', c', h1, _, h3⟩ := Hu.out
            injection h1 with h1 _ _
            obtain ⟨b, o, h, _, hc⟩ := h3 j hlt.2
            rw [← h1, had] at h
            injection h with h
            subst h
            have hu : u = .int .i64 (r.asks.getD j 0) := by
              rw [List.getElem?_map, List.getElem?_take, if_pos hlt.1, List.getElem?_eq_getElem hlt.2] at hj
              simp at hj
              rw [← hj, List.getD_eq_getElem?_getD, List.getElem?_eq_getElem hlt.2]; rfl
            rw [hu]
            by_cases h0 : j = 0
            · subst h0; simpa [Addr.add] using hc
            · simpa [Addr.add, h0] using hc
          have Hnews := Lib.hid hnews
          clear hnews
          refine wp_region_perm [(0, true), (1, true), (2, true), (3, true), (4, true), (6, true), (7, true), (8, true), (9, true), (10, true), (11, true), (12, true), (5, false), (13, false), (14, true), (15, false), (16, false), (17, true)] (fun w' => w'.cell? ⟨g5, 0, none⟩ = some (.int .i64 r.kind) ∧ w'.cell? ⟨g5, 1, none⟩ = some (.int .i64 r.n) ∧ w'.cell? ⟨g5, 2, none⟩ = some (.slice (some ad) r.asks.length uc)) rfl (by kernel_rfl) (by kernel_rfl) (by decide) (fun c a d v w h => by cases d <;> exact h) ⟨f0, f1, f2⟩ ?_
          refine perm_q (v := ?v2_0) (some 20) rfl rfl rfl ?q2_0 ?h2_0; (case q2_0 => (intro w' hS; obtain ⟨s1, s2, s3⟩ := hS; first | (go_simp; done) | (go_simp; rfl))); (try simp only [Act.put, List.setIfInBounds_toArray, List.set_cons_zero, List.set_cons_succ])
          refine perm_q (v := ?v2_1) (some 21) rfl rfl rfl ?q2_1 ?h2_1; (case q2_1 => (intro w' hS; obtain ⟨s1, s2, s3⟩ := hS; first | (go_simp; done) | (go_simp; rfl))); (try simp only [Act.put, List.setIfInBounds_toArray, List.set_cons_zero, List.set_cons_succ])
          refine perm_q (v := ?v2_2) (some 22) rfl rfl rfl ?q2_2 ?h2_2; (case q2_2 => (intro w' hS; obtain ⟨s1, s2, s3⟩ := hS; first | (go_simp; done) | (go_simp; rfl))); (try simp only [Act.put, List.setIfInBounds_toArray, List.set_cons_zero, List.set_cons_succ])
          refine perm_q (v := ?v2_3) (some 23) rfl rfl rfl ?q2_3 ?h2_3; (case q2_3 => (intro w' hS; obtain ⟨s1, s2, s3⟩ := hS; first | (go_simp; done) | (go_simp; rfl))); (try simp only [Act.put, List.setIfInBounds_toArray, List.set_cons_zero, List.set_cons_succ])
          refine perm_q (v := ?v2_4) (some 24) rfl rfl rfl ?q2_4 ?h2_4; (case q2_4 => (intro w' hS; obtain ⟨s1, s2, s3⟩ := hS; first | (go_simp; done) | (go_simp; rfl))); (try simp only [Act.put, List.setIfInBounds_toArray, List.set_cons_zero, List.set_cons_succ])
          refine perm_q (v := ?v2_6) (some 26) rfl rfl rfl ?q2_6 ?h2_6; (case q2_6 => (intro w' hS; obtain ⟨s1, s2, s3⟩ := hS; first | (go_simp; done) | (go_simp; rfl))); (try simp only [Act.put, List.setIfInBounds_toArray, List.set_cons_zero, List.set_cons_succ])
          refine perm_q (v := ?v2_7) (some 27) rfl rfl rfl ?q2_7 ?h2_7; (case q2_7 => (intro w' hS; obtain ⟨s1, s2, s3⟩ := hS; first | (go_simp; done) | (go_simp; rfl))); (try simp only [Act.put, List.setIfInBounds_toArray, List.set_cons_zero, List.set_cons_succ])
          refine perm_q (v := ?v2_8) (some 28) rfl rfl rfl ?q2_8 ?h2_8; (case q2_8 => (intro w' hS; obtain ⟨s1, s2, s3⟩ := hS; first | (go_simp; done) | (go_simp; rfl))); (try simp only [Act.put, List.setIfInBounds_toArray, List.set_cons_zero, List.set_cons_succ])
          refine perm_q (v := ?v2_9) (some 29) rfl rfl rfl ?q2_9 ?h2_9; (case q2_9 => (intro w' hS; obtain ⟨s1, s2, s3⟩ := hS; first | (go_simp; done) | (go_simp; rfl))); (try simp only [Act.put, List.setIfInBounds_toArray, List.set_cons_zero, List.set_cons_succ])
          refine perm_q (v := ?v2_10) (some 30) rfl rfl rfl ?q2_10 ?h2_10; (case q2_10 => (intro w' hS; obtain ⟨s1, s2, s3⟩ := hS; first | (go_simp; done) | (go_simp; rfl))); (try simp only [Act.put, List.setIfInBounds_toArray, List.set_cons_zero, List.set_cons_succ])
          refine perm_q (v := ?v2_11) (some 31) rfl rfl rfl ?q2_11 ?h2_11; (case q2_11 => (intro w' hS; obtain ⟨s1, s2, s3⟩ := hS; first | (go_simp; done) | (go_simp; rfl))); (try simp only [Act.put, List.setIfInBounds_toArray, List.set_cons_zero, List.set_cons_succ])
          refine perm_q (v := ?v2_12) (some 32) rfl rfl rfl ?q2_12 ?h2_12; (case q2_12 => (intro w' hS; obtain ⟨s1, s2, s3⟩ := hS; first | (go_simp; done) | (go_simp; rfl))); (try simp only [Act.put, List.setIfInBounds_toArray, List.set_cons_zero, List.set_cons_succ])
          refine perm_e rfl ?_   -- 5: buildSlice 23 0 []
          go_must (refine ev_slice (cs := #[]) (t := 3) (n := 0) (c := 0) rfl (by first | (go_simp; done) | (go_simp; rfl)) ?_; intro gB w3 hgB hlB hbB hk3)
          have HbB := Lib.hid hbB
          clear hbB
          (try simp only [Act.put, List.setIfInBounds_toArray, List.set_cons_zero, List.set_cons_succ])
          have f0 := hk3.cell (w := w2.drew) f0 id
          have f1 := hk3.cell (w := w2.drew) f1 id
          have f2 := hk3.cell (w := w2.drew) f2 id
          have HK3 := Lib.hid ((HK12.out.drew).trans hk3 (fun _ _ h => h))
          refine wpList_nil ⟨⟨f0, f1, f2⟩, ?_⟩
          refine perm_e rfl ?_   -- 13: call append(t25, t32) :#[23, 23]
          go_must (refine ev_append (W := w3) (xs := []) (n := 0) (m := m) (news := (r.asks.take m).map (Value.int .i64)) rfl rfl Tryd.underlying23 info3 rfl (by decide) (base := 0) rfl ⟨rfl, .inr ⟨gB, 0, #[], rfl, Nat.zero_le _, HbB.out, Nat.le_refl _, Nat.zero_le _, rfl, rfl⟩⟩ rfl (by rw [List.length_map, List.length_take]; omega) (fun _ => ⟨ad, rfl, fun j u hj => HK3.out.cell (Hnews.out j u hj ad rfl) id⟩) (fun u hu => by obtain ⟨x, _, rfl⟩ := List.mem_map.1 hu; rfl) (by omega) (by decide) (Nat.zero_le _) ?_; intro cv w4 hown4 hk4 hr4 hf4; obtain ⟨cA, cc, rfl⟩ := own_slice hown4)
          have Hown4 := Lib.hid hown4
          have Hr4 := Lib.hid hr4
          have HgB := Lib.hid (show w2.heap.size ≤ gB ∧ wr.heap.size ≤ gB from ⟨hgB, by have h1 := HK12.out.size; have h2 : w2.heap.size ≤ gB := hgB; omega⟩)
          have HK4 := Lib.hid (HK3.out.trans hk4 (fun i hi e => by have h1 := HgB.out; have e : some i = some gB := e; injection e with e; omega))
          have hg5B : ¬ some g5 = Value.ownBlock (.slice (some ⟨gB, 0, none⟩) 0 0) := fun e => by have e : some g5 = some gB := e; injection e with e; have h1 := HgB.out; have h2 := World.block_lt_of_cell? _ _ f0; have h3 : g5 < w2.heap.size := (by have h4 := hk2.size; omega); omega
          clear hown4 hf4 hr4
          (try simp only [Act.put, List.setIfInBounds_toArray, List.set_cons_zero, List.set_cons_succ])
          have f0 := hk4.cell f0 hg5B
          have f1 := hk4.cell f1 hg5B
          have f2 := hk4.cell f2 hg5B
          refine wpList_nil ⟨⟨f0, f1, f2⟩, ?_⟩
          refine perm_q (v := ?v2_14) (some 34) rfl rfl rfl ?q2_14 ?h2_14; (case q2_14 => (intro w' hS; obtain ⟨s1, s2, s3⟩ := hS; first | (go_simp; done) | (go_simp; rfl))); (try simp only [Act.put, List.setIfInBounds_toArray, List.set_cons_zero, List.set_cons_succ])
          refine perm_e rfl ?_   -- 15: buildSlice 22 1 [(0, t34)]
          go_must (refine ev_slice (cs := #[.int .i64 r.kind, .int .i64 r.n, .slice cA (0 + m) cc]) (t := 72) (n := 1) (c := 1) rfl (by first | (go_simp; done) | (go_simp; rfl)) ?_; intro g6 w5 hg6 hl6 hb6 hk6)
          have Hb6 := Lib.hid hb6
          clear hb6
          (try simp only [Act.put, List.setIfInBounds_toArray, List.set_cons_zero, List.set_cons_succ])
          have f0 := hk6.cell f0 id
          have f1 := hk6.cell f1 id
          have f2 := hk6.cell f2 id
          have HK15 := Lib.hid (HK4.out.trans hk6 (fun _ _ h => h))
          refine wpList_nil ⟨⟨f0, f1, f2⟩, ?_⟩
          refine perm_e rfl ?_   -- 16: call append(t20, t35) :#[22, 22]
          go_must (refine ev_append (W := w5) rfl rfl Tryd.underlying22 info72b rfl (by decide) (base := 0) rfl (ownsRow_keep hown.out HK15.out (fun _ _ => id)) (news := [.int .i64 r.kind, .int .i64 r.n, .slice cA (0 + m) cc]) rfl rfl (fun _ => ⟨_, rfl, World.news_of_block Hb6.out⟩) (by simp [Value.oneCell']) (by omega) (by decide) (Nat.zero_le _) ?_; intro ov6 w6 hown6 hk7 hr6 hf6)
          have Hown6 := Lib.hid hown6
          have Hr6 := Lib.hid hr6
          have hk7 : Keeps (fun k => some k = u3.ownBlock) w5 w6 := hk7
          have ho := fun b hb => (own_lt hown.out b hb).1
          have lg5 : wr.heap.size ≤ g5 ∧ g5 < w2.heap.size := ⟨hg5, by have h4 := hk2.size; omega⟩
          have z15 := HK15.out.size
          have hg5o : ¬ some g5 = u3.ownBlock := fun e => by have := ho g5 e.symm; omega
          (try simp only [Act.put, List.setIfInBounds_toArray, List.set_cons_zero, List.set_cons_succ])
          have f0 := hk7.cell f0 hg5o
          have f1 := hk7.cell f1 hg5o
          have f2 := hk7.cell f2 hg5o
          refine wpList_nil ⟨⟨f0, f1, f2⟩, ?_⟩
          refine perm_q (v := ?v2_17) (some 3) rfl rfl rfl ?q2_17 ?h2_17; (case q2_17 => (intro w' hS; obtain ⟨s1, s2, s3⟩ := hS; first | (go_simp; done) | (go_simp; rfl))); (try simp only [Act.put, List.setIfInBounds_toArray, List.set_cons_zero, List.set_cons_succ])
          refine perm_nil ?_
          clear f0 f1 f2
          go_wp2
          have z0 := hkeep.out.size
          have hk7' : Keeps Nob w w6 := (hkeep.out.trans HK15.out (fun _ _ h => h)).trans hk7 (fun i hi e => absurd (hob.out i e.symm) (by omega))
          refine ⟨⟨k + 1, ps ++ [(cutRule r, .slice cA (0 + m) cc)], by go_num, by omega, by omega, by simp [hpl], Lib.hid hk7', Lib.hid ?_, Lib.hid ?_, Lib.hid (fun b hb => ?_), Lib.hid (fun p hp => ?_)⟩, by simp [intOf]; omega⟩
          · rw [List.map_append, hmap.out, List.take_succ_eq_append_getElem (by rw [Hrl.out]; exact hlt), List.map_append]
            have := Hrd.out
            rw [List.getD_eq_getElem?_getD, List.getElem?_eq_getElem (by rw [Hrl.out]; exact hlt)] at this
            simp at this
            simp [this]
          · have := Hown6.out
            rw [List.length_append]
            simpa [flat, cutRule] using this
          · rcases Hr6.out with h | ⟨b', h, hl'⟩
            · exact hob.out b (show u3.ownBlock = some b from h.symm.trans hb)
            · rw [h] at hb; injection hb with hb; omega
          · have hfree : ∀ b, b < w5.heap.size → ¬ some b = Value.ownBlock (u3) → ¬ some b = ov6.ownBlock := fun b hb hn e => by
              rcases Hr6.out with h | ⟨b', h, hl'⟩
              · exact hn (e.trans h)
              · rw [h] at e; injection e with e; omega
            rcases List.mem_append.1 hp with hp | hp
            · exact ((hin.out p hp).keep (X' := fun b => w.heap.size ≤ b ∧ b < wr.heap.size ∧ ¬ some b = Value.ownBlock u3) HK15.out (fun _ _ _ => id) (fun _ _ h => h)).keep hk7 (fun b _ hx => hx.2.2) (fun b _ hx => ⟨hx.1, by have := hx.2.1; have := hk7.size; omega, hfree b (by have := hx.2.1; omega) hx.2.2⟩)
            · rw [List.mem_singleton.1 hp]
              have hi4 : IntsX w4 (fun b => wr.heap.size ≤ b ∧ b < w4.heap.size) (.slice cA (0 + m) cc) (cutRule r).asks := by
                have hl : (r.asks.take m).length = 0 + m := by rw [List.length_take]; omega
                have e : (cutRule r).asks = r.asks.take m := by show r.asks.take 14 = _; rw [Hm.out]; rcases Nat.le_total r.asks.length 14 with h | h; rw [Nat.min_eq_left h, List.take_of_length_le h, List.take_of_length_le (Nat.le_refl _)]; rw [Nat.min_eq_right h]
                rw [e]
                refine IntsX.own (xs := r.asks.take m) (by rw [hl]; exact Hown4.out) _ (fun k hkk => ⟨?_, (own_lt Hown4.out k hkk.symm).1⟩)
                rcases Hr4.out with h | ⟨b, h, hl⟩
                · rw [h] at hkk; have e : some k = some gB := hkk; injection e with e; have := HgB.out; omega
                · rw [h] at hkk; injection hkk with hkk; have := HK3.out.size; omega
              exact (hi4.keep (X' := fun b => wr.heap.size ≤ b ∧ b < w4.heap.size) hk6 (fun _ _ _ => id) (fun _ _ h => h)).keep hk7 (fun b _ hx e => by have := ho b e.symm; have := hx.1; omega) (fun b _ hx => ⟨by have := hx.1; omega, by have := hx.2; have := hk6.size; have := hk7.size; omega, hfree b (by have := hx.2; have := hk6.size; omega) (fun e => by have := ho b e.symm; have := hx.1; omega)⟩)
      · obtain rfl : k = 202 := by omega
        go_wp2
        go_ret
        refine ⟨_, rfl, hkeep.out, RulesX.own hown.out hmap.out _ (fun b hb => ⟨hob.out b hb.symm, (own_lt hown.out b hb.symm).1⟩) (fun p hp => (hin.out p hp).keep (Keeps.refl Nob _) (fun _ _ _ => id) (fun b _ h => ⟨h.1, h.2.1⟩))⟩
    · have hk' : k = rl := by omega
      subst hk'
      go_wp2
      go_ret
      refine ⟨_, rfl, hkeep.out, RulesX.own hown.out (by rw [hmap.out]; unfold cutAt; rw [List.take_of_length_le (by have := Hrl.out; omega), List.take_of_length_le (by have := Hrl.out; omega)]) _ (fun b hb => ⟨hob.out b hb.symm, (own_lt hown.out b hb.symm).1⟩) (fun p hp => (hin.out p hp).keep (Keeps.refl Nob _) (fun _ _ _ => id) (fun b _ h => ⟨h.1, h.2.1⟩))⟩
end Go.Proofs.QW
