/-
  A copy of rules that are not too many (Cut, cut), in memory. Condition: rules lie.
-/
import Derived.Test.YtohpkolkagddiaaDoorPlays3
namespace Go.Proofs.QW
open Go.RowKit Go.Proofs.KL Go.Proofs.QM
set_option maxRecDepth 100000
set_option linter.unusedSimpArgs false
set_option linter.unusedVariables false

def cutRule (r : QRule) : QRule := { r with asks := r.asks.take 14 }
def cutAt (n : Nat) (rs : List QRule) : List QRule := (rs.take n).map cutRule
set_option maxHeartbeats 4000000 in
/-- CUT. -/
theorem Cut_any (rs : List QRule) (w : World) (X : Nat → Prop) (rv : Value) (hr : RulesX w X rv rs) :
    Calls Tryd.prog 33 #[rv] w fun e w' => ∃ v', e = .returned v' ∧ Keeps Nob w w' ∧ RulesX w' (fun k => w.heap.size ≤ k ∧ k < w'.heap.size) v' (cutAt 202 rs) := by
  obtain ⟨A, c, rfl, hcc, hcell⟩ := id hr
  obtain ⟨i72, hi72, hs72⟩ := info72
  have HI := Lib.hid (And.intro hi72 hs72)
  have Hcell := Lib.hid hcell
  obtain ⟨rl, hrl⟩ : ∃ x, rs.length = x := ⟨_, rfl⟩
  rw [hrl] at hcc ⊢
  have Hrl := Lib.hid hrl
  clear hr hcell hrl hi72 hs72
  go_enter Tryd.func33, Tryd.ntmps33
  go_wp2
  go_loopw [3, 4] (fun ov v wr => ∃ (k : Nat) (ps : List (QRule × Value)), v = .int .i64 k ∧ k ≤ rl ∧ k ≤ 202 ∧ ps.length = k ∧ Hid (Keeps Nob w wr) ∧ Hid (ps.map (·.1) = (rs.take k).map cutRule) ∧ Hid (wr.ownsRow 0 72 3 ov ps.length (flat ps)) ∧ Hid (∀ b, ov.ownBlock = some b → w.heap.size ≤ b) ∧ Hid (∀ p ∈ ps, IntsX wr (fun b => w.heap.size ≤ b ∧ b < wr.heap.size ∧ ¬ some b = ov.ownBlock) p.2 p.1.asks))
    (fun _ v _ => rl - (intOf v).toNat)
  case atStart => exact ⟨0, [], rfl, Nat.zero_le _, Nat.zero_le _, rfl, Lib.hid (Keeps.refl _ _), Lib.hid rfl, Lib.hid ⟨rfl, .inl ⟨rfl, rfl⟩⟩, Lib.hid (fun b h => by cases h), Lib.hid (fun p h => by cases h)⟩
  case round =>
    obtain ⟨k, ps, rfl, hk, hk202, hpl, hkeep, hmap, hown, hob, hin⟩ := hrel
    by_cases hlt : k < rl
    · by_cases hlt2 : k < 202
      · obtain ⟨b, o, u, rfl, hb, e0, e1, e2, hu⟩ := Hcell.out k (by rw [Hrl.out]; exact hlt)
        have e0 := hkeep.out.cell e0 id
        have e1 := hkeep.out.cell e1 id
        have e2 := hkeep.out.cell e2 id
        have hu' := hu.keep (X' := X) hkeep.out (fun _ _ _ => id) (fun _ _ h => h)
        obtain ⟨uA, uc, rfl, huc, huu⟩ := id hu
        have Hu := Lib.hid hu'
        have Huc := Lib.hid huc
        have hnone : uA = none → (rs.getD k default).asks.length = 0 := fun e => by
          rcases Nat.eq_zero_or_pos (rs.getD k default).asks.length with h | h
          · exact h
          · obtain ⟨b, o, h2, _⟩ := huu 0 h; rw [e] at h2; cases h2
        have Hnone := Lib.hid hnone
        clear hu hu' hb huu hnone
        generalize hrd : rs.getD k default = r at *
        have Hrd := Lib.hid hrd
        clear hrd
        obtain ⟨m, hm⟩ : ∃ m : Nat, m = min r.asks.length 14 := ⟨_, rfl⟩
        have hmin : (if (14 : Int) < (r.asks.length : Int) then (14 : Int) else (r.asks.length : Int)) = (m : Int) := by split <;> omega
        have Hm := Lib.hid hm
        have hm1 : m ≤ r.asks.length := by omega
        have hm2 : m ≤ 14 := by omega
        have hm3 : m ≤ uc := by omega
        clear hm
        go_wp2_with (first
          | ((with_reducible refine at_dst (N := 5) rfl ?_); go_must (refine ev_alloc rfl rfl zero72 rfl ?_; intro g5 w1 hg5 hl5 hb5 hk1); have Hb5 := Lib.hid hb5; clear hb5; (try simp only [Act.put, List.setIfInBounds_toArray, List.set_cons_zero, List.set_cons_succ]))
          | ((with_reducible refine at_store (t := 72) rfl ?_); go_must (refine ev_store (cs' := #[.int .i64 r.kind, .int .i64 r.n, .slice uA r.asks.length uc]) rfl rfl rfl rfl rfl rfl HI.out.1 HI.out.2 rfl Hb5.out (Nat.le_of_ble_eq_true rfl) rfl ?_; intro w2 hb2 hk2); have f0 := (blk_cell hb2 0).trans rfl; have f1 := (blk_cell hb2 1).trans rfl; have f2 := (blk_cell hb2 2).trans rfl
             have hk12 : Keeps Nob wr w2 := hk1.own hk2 hg5
             have HK12 := Lib.hid hk12
             clear hk12 hb2
             (try simp only [Act.put, List.setIfInBounds_toArray, List.set_cons_zero, List.set_cons_succ])))
        cases uA with
        | none =>
          have h0 := Hnone.out rfl
          have hm0 : m = 0 := by omega
          have hnews : ∀ j u, ((r.asks.take m).map (Value.int .i64))[j]? = some u → ∀ ad', (none : Option Addr) = some ad' → wr.cell? (ad'.add j) = some u := fun j u hj ad' had => by
            have hlt : j < m ∧ j < r.asks.length := by
              have := (List.getElem?_eq_some_iff.1 hj).1
              rw [List.length_map, List.length_take] at this
              omega
            obtain ⟨A', c', h1, _, h3⟩ := Hu.out
            injection h1 with h1 _ _
            obtain ⟨b, o, h, _, hc⟩ := h3 j hlt.2
            rw [← h1, had] at h
            injection h with h
            subst h
            have hu : u = .int .i64 (r.asks.getD j 0) := by
              rw [List.getElem?_map, List.getElem?_take, if_pos hlt.1, List.getElem?_eq_getElem hlt.2] at hj
              simp at hj
              rw [← hj, List.getD_eq_getElem?_getD, List.getElem?_eq_getElem hlt.2]; rfl
            rw [hu]
            by_cases h0 : j = 0
            · subst h0; simpa [Addr.add] using hc
            · simpa [Addr.add, h0] using hc
          have Hnews := Lib.hid hnews
          clear hnews
          refine wp_region_perm [(0, true), (1, true), (2, true), (3, true), (4, true), (6, true), (7, true), (8, true), (9, true), (10, true), (11, true), (12, true), (5, false), (13, false), (14, true), (15, false), (16, false), (17, true)] (fun w' => w'.cell? ⟨g5, 0, none⟩ = some (.int .i64 r.kind) ∧ w'.cell? ⟨g5, 1, none⟩ = some (.int .i64 r.n) ∧ w'.cell? ⟨g5, 2, none⟩ = some (.slice (none) r.asks.length uc)) rfl (by kernel_rfl) (by kernel_rfl) (by decide) (fun c a d v w h => by cases d <;> exact h) ⟨f0, f1, f2⟩ ?_
          refine perm_q (v := ?v1_0) (some 20) rfl rfl rfl ?q1_0 ?h1_0; (case q1_0 => (intro w' hS; obtain ⟨s1, s2, s3⟩ := hS; first | (go_simp; done) | (go_simp; rfl))); (try simp only [Act.put, List.setIfInBounds_toArray, List.set_cons_zero, List.set_cons_succ])
          refine perm_q (v := ?v1_1) (some 21) rfl rfl rfl ?q1_1 ?h1_1; (case q1_1 => (intro w' hS; obtain ⟨s1, s2, s3⟩ := hS; first | (go_simp; done) | (go_simp; rfl))); (try simp only [Act.put, List.setIfInBounds_toArray, List.set_cons_zero, List.set_cons_succ])
          refine perm_q (v := ?v1_2) (some 22) rfl rfl rfl ?q1_2 ?h1_2; (case q1_2 => (intro w' hS; obtain ⟨s1, s2, s3⟩ := hS; first | (go_simp; done) | (go_simp; rfl))); (try simp only [Act.put, List.setIfInBounds_toArray, List.set_cons_zero, List.set_cons_succ])
          refine perm_q (v := ?v1_3) (some 23) rfl rfl rfl ?q1_3 ?h1_3; (case q1_3 => (intro w' hS; obtain ⟨s1, s2, s3⟩ := hS; first | (go_simp; done) | (go_simp; rfl))); (try simp only [Act.put, List.setIfInBounds_toArray, List.set_cons_zero, List.set_cons_succ])
          refine perm_q (v := ?v1_4) (some 24) rfl rfl rfl ?q1_4 ?h1_4; (case q1_4 => (intro w' hS; obtain ⟨s1, s2, s3⟩ := hS; first | (go_simp; done) | (go_simp; rfl))); (try simp only [Act.put, List.setIfInBounds_toArray, List.set_cons_zero, List.set_cons_succ])
          refine perm_q (v := ?v1_6) (some 26) rfl rfl rfl ?q1_6 ?h1_6; (case q1_6 => (intro w' hS; obtain ⟨s1, s2, s3⟩ := hS; first | (go_simp; done) | (go_simp; rfl))); (try simp only [Act.put, List.setIfInBounds_toArray, List.set_cons_zero, List.set_cons_succ])
          refine perm_q (v := ?v1_7) (some 27) rfl rfl rfl ?q1_7 ?h1_7; (case q1_7 => (intro w' hS; obtain ⟨s1, s2, s3⟩ := hS; first | (go_simp; done) | (go_simp; rfl))); (try simp only [Act.put, List.setIfInBounds_toArray, List.set_cons_zero, List.set_cons_succ])
          refine perm_q (v := ?v1_8) (some 28) rfl rfl rfl ?q1_8 ?h1_8; (case q1_8 => (intro w' hS; obtain ⟨s1, s2, s3⟩ := hS; first | (go_simp; done) | (go_simp; rfl))); (try simp only [Act.put, List.setIfInBounds_toArray, List.set_cons_zero, List.set_cons_succ])
          refine perm_q (v := ?v1_9) (some 29) rfl rfl rfl ?q1_9 ?h1_9; (case q1_9 => (intro w' hS; obtain ⟨s1, s2, s3⟩ := hS; first | (go_simp; done) | (go_simp; rfl))); (try simp only [Act.put, List.setIfInBounds_toArray, List.set_cons_zero, List.set_cons_succ])
          refine perm_q (v := ?v1_10) (some 30) rfl rfl rfl ?q1_10 ?h1_10; (case q1_10 => (intro w' hS; obtain ⟨s1, s2, s3⟩ := hS; first | (go_simp; done) | (go_simp; rfl))); (try simp only [Act.put, List.setIfInBounds_toArray, List.set_cons_zero, List.set_cons_succ])
          refine perm_q (v := ?v1_11) (some 31) rfl rfl rfl ?q1_11 ?h1_11; (case q1_11 => (intro w' hS; obtain ⟨s1, s2, s3⟩ := hS; first | (go_simp; done) | (go_simp; rfl))); (try simp only [Act.put, List.setIfInBounds_toArray, List.set_cons_zero, List.set_cons_succ])
          refine perm_q (v := ?v1_12) (some 32) rfl rfl rfl ?q1_12 ?h1_12; (case q1_12 => (intro w' hS; obtain ⟨s1, s2, s3⟩ := hS; first | (go_simp; done) | (go_simp; rfl))); (try simp only [Act.put, List.setIfInBounds_toArray, List.set_cons_zero, List.set_cons_succ])
          refine perm_e rfl ?_   -- 5: buildSlice 23 0 []
          go_must (refine ev_slice (cs := #[]) (t := 3) (n := 0) (c := 0) rfl (by first | (go_simp; done) | (go_simp; rfl)) ?_; intro gB w3 hgB hlB hbB hk3)
          have HbB := Lib.hid hbB
          clear hbB
          (try simp only [Act.put, List.setIfInBounds_toArray, List.set_cons_zero, List.set_cons_succ])
          have f0 := hk3.cell (w := w2.drew) f0 id
          have f1 := hk3.cell (w := w2.drew) f1 id
          have f2 := hk3.cell (w := w2.drew) f2 id
          have HK3 := Lib.hid ((HK12.out.drew).trans hk3 (fun _ _ h => h))
          refine wpList_nil ⟨⟨f0, f1, f2⟩, ?_⟩
          refine perm_e rfl ?_   -- 13: call append(t25, t32) :#[23, 23]
          go_must (refine ev_append (W := w3) (xs := []) (n := 0) (m := 0) (news := (r.asks.take m).map (Value.int .i64)) rfl rfl Tryd.underlying23 info3 rfl (by decide) (base := 0) rfl ⟨rfl, .inr ⟨gB, 0, #[], rfl, Nat.zero_le _, HbB.out, Nat.le_refl _, Nat.zero_le _, rfl, rfl⟩⟩ rfl (by rw [List.length_map, List.length_take]; omega) (fun h => absurd h (by omega)) (fun u hu => by obtain ⟨x, _, rfl⟩ := List.mem_map.1 hu; rfl) (by omega) (by decide) (Nat.zero_le _) ?_; intro cv w4 hown4 hk4 hr4 hf4; obtain ⟨cA, cc, rfl⟩ := own_slice hown4)
          have Hown4 := Lib.hid hown4
          have Hr4 := Lib.hid hr4
          have HgB := Lib.hid (show w2.heap.size ≤ gB ∧ wr.heap.size ≤ gB from ⟨hgB, by have h1 := HK12.out.size; have h2 : w2.heap.size ≤ gB := hgB; omega⟩)
          have HK4 := Lib.hid (HK3.out.trans hk4 (fun i hi e => by have h1 := HgB.out; have e : some i = some gB := e; injection e with e; omega))
          have hg5B : ¬ some g5 = Value.ownBlock (.slice (some ⟨gB, 0, none⟩) 0 0) := fun e => by have e : some g5 = some gB := e; injection e with e; have h1 := HgB.out; have h2 := World.block_lt_of_cell? _ _ f0; have h3 : g5 < w2.heap.size := (by have h4 := hk2.size; omega); omega
          clear hown4 hf4 hr4
          (try simp only [Act.put, List.setIfInBounds_toArray, List.set_cons_zero, List.set_cons_succ])
          have f0 := hk4.cell f0 hg5B
          have f1 := hk4.cell f1 hg5B
          have f2 := hk4.cell f2 hg5B
          refine wpList_nil ⟨⟨f0, f1, f2⟩, ?_⟩
          refine perm_q (v := ?v1_14) (some 34) rfl rfl rfl ?q1_14 ?h1_14; (case q1_14 => (intro w' hS; obtain ⟨s1, s2, s3⟩ := hS; first | (go_simp; done) | (go_simp; rfl))); (try simp only [Act.put, List.setIfInBounds_toArray, List.set_cons_zero, List.set_cons_succ])
          refine perm_e rfl ?_   -- 15: buildSlice 22 1 [(0, t34)]
          go_must (refine ev_slice (cs := #[.int .i64 r.kind, .int .i64 r.n, .slice cA (0 + 0) cc]) (t := 72) (n := 1) (c := 1) rfl (by first | (go_simp; done) | (go_simp; rfl)) ?_; intro g6 w5 hg6 hl6 hb6 hk6)
          have Hb6 := Lib.hid hb6
          clear hb6
          (try simp only [Act.put, List.setIfInBounds_toArray, List.set_cons_zero, List.set_cons_succ])
          have f0 := hk6.cell f0 id
          have f1 := hk6.cell f1 id
          have f2 := hk6.cell f2 id
          have HK15 := Lib.hid (HK4.out.trans hk6 (fun _ _ h => h))
          refine wpList_nil ⟨⟨f0, f1, f2⟩, ?_⟩
          refine perm_e rfl ?_   -- 16: call append(t20, t35) :#[22, 22]
          go_must (refine ev_append (W := w5) rfl rfl Tryd.underlying22 info72b rfl (by decide) (base := 0) rfl (ownsRow_keep hown.out HK15.out (fun _ _ => id)) (news := [.int .i64 r.kind, .int .i64 r.n, .slice cA (0 + 0) cc]) rfl rfl (fun _ => ⟨_, rfl, World.news_of_block Hb6.out⟩) (by simp [Value.oneCell']) (by omega) (by decide) (Nat.zero_le _) ?_; intro ov6 w6 hown6 hk7 hr6 hf6)
          have Hown6 := Lib.hid hown6
          have Hr6 := Lib.hid hr6
          have hk7 : Keeps (fun k => some k = u3.ownBlock) w5 w6 := hk7
          have ho := fun b hb => (own_lt hown.out b hb).1
          have lg5 : wr.heap.size ≤ g5 ∧ g5 < w2.heap.size := ⟨hg5, by have h4 := hk2.size; omega⟩
          have z15 := HK15.out.size
          have hg5o : ¬ some g5 = u3.ownBlock := fun e => by have := ho g5 e.symm; omega
          (try simp only [Act.put, List.setIfInBounds_toArray, List.set_cons_zero, List.set_cons_succ])
          have f0 := hk7.cell f0 hg5o
          have f1 := hk7.cell f1 hg5o
          have f2 := hk7.cell f2 hg5o
          refine wpList_nil ⟨⟨f0, f1, f2⟩, ?_⟩
          refine perm_q (v := ?v1_17) (some 3) rfl rfl rfl ?q1_17 ?h1_17; (case q1_17 => (intro w' hS; obtain ⟨s1, s2, s3⟩ := hS; first | (go_simp; done) | (go_simp; rfl))); (try simp only [Act.put, List.setIfInBounds_toArray, List.set_cons_zero, List.set_cons_succ])
          refine perm_nil ?_
          clear f0 f1 f2
          go_wp2
          have z0 := hkeep.out.size
          have hk7' : Keeps Nob w w6 := (hkeep.out.trans HK15.out (fun _ _ h => h)).trans hk7 (fun i hi e => absurd (hob.out i e.symm) (by omega))
          refine ⟨⟨k + 1, ps ++ [(cutRule r, .slice cA (0 + 0) cc)], by go_num, by omega, by omega, by simp [hpl], Lib.hid hk7', Lib.hid ?_, Lib.hid ?_, Lib.hid (fun b hb => ?_), Lib.hid (fun p hp => ?_)⟩, by simp [intOf]; omega⟩
          · rw [List.map_append, hmap.out, List.take_succ_eq_append_getElem (by rw [Hrl.out]; exact hlt), List.map_append]
            have := Hrd.out
            rw [List.getD_eq_getElem?_getD, List.getElem?_eq_getElem (by rw [Hrl.out]; exact hlt)] at this
            simp at this
            simp [this]
          · have := Hown6.out
            rw [List.length_append]
            simpa [flat, cutRule] using this
          · rcases Hr6.out with h | ⟨b', h, hl'⟩
            · exact hob.out b (show u3.ownBlock = some b from h.symm.trans hb)
            · rw [h] at hb; injection hb with hb; omega
          · have hfree : ∀ b, b < w5.heap.size → ¬ some b = Value.ownBlock (u3) → ¬ some b = ov6.ownBlock := fun b hb hn e => by
              rcases Hr6.out with h | ⟨b', h, hl'⟩
              · exact hn (e.trans h)
              · rw [h] at e; injection e with e; omega
            rcases List.mem_append.1 hp with hp | hp
            · exact ((hin.out p hp).keep (X' := fun b => w.heap.size ≤ b ∧ b < wr.heap.size ∧ ¬ some b = Value.ownBlock u3) HK15.out (fun _ _ _ => id) (fun _ _ h => h)).keep hk7 (fun b _ hx => hx.2.2) (fun b _ hx => ⟨hx.1, by have := hx.2.1; have := hk7.size; omega, hfree b (by have := hx.2.1; omega) hx.2.2⟩)
            · rw [List.mem_singleton.1 hp]
              have hi4 : IntsX w4 (fun b => wr.heap.size ≤ b ∧ b < w4.heap.size) (.slice cA (0 + 0) cc) (cutRule r).asks := by
                have hl : (r.asks.take m).length = 0 + 0 := by rw [List.length_take]; omega
                have e : (cutRule r).asks = r.asks.take m := by show r.asks.take 14 = _; rw [Hm.out]; rcases Nat.le_total r.asks.length 14 with h | h; rw [Nat.min_eq_left h, List.take_of_length_le h, List.take_of_length_le (Nat.le_refl _)]; rw [Nat.min_eq_right h]
                rw [e]
                refine IntsX.own (xs := r.asks.take m) (by rw [hl]; exact Hown4.out) _ (fun k hkk => ⟨?_, (own_lt Hown4.out k hkk.symm).1⟩)
                rcases Hr4.out with h | ⟨b, h, hl⟩
                · rw [h] at hkk; have e : some k = some gB := hkk; injection e with e; have := HgB.out; omega
                · rw [h] at hkk; injection hkk with hkk; have := HK3.out.size; omega
              exact (hi4.keep (X' := fun b => wr.heap.size ≤ b ∧ b < w4.heap.size) hk6 (fun _ _ _ => id) (fun _ _ h => h)).keep hk7 (fun b _ hx e => by have := ho b e.symm; have := hx.1; omega) (fun b _ hx => ⟨by have := hx.1; omega, by have := hx.2; have := hk6.size; have := hk7.size; omega, hfree b (by have := hx.2; have := hk6.size; omega) (fun e => by have := ho b e.symm; have := hx.1; omega)⟩)
        | some ad =>
          have hnews : ∀ j u, ((r.asks.take m).map (Value.int .i64))[j]? = some u → ∀ ad', (some ad : Option Addr) = some ad' → wr.cell? (ad'.add j) = some u := fun j u hj ad' had => by
            have hlt : j < m ∧ j < r.asks.length := by
              have := (List.getElem?_eq_some_iff.1 hj).1
              rw [List.length_map, List.length_take] at this
              omega
            obtain ⟨A', c', h1, _, h3⟩ := Hu.out
            injection h1 with h1 _ _
            obtain ⟨b, o, h, _, hc⟩ := h3 j hlt.2
            rw [← h1, had] at h
            injection h with h
            subst h
            have hu : u = .int .i64 (r.asks.getD j 0) := by
              rw [List.getElem?_map, List.getElem?_take, if_pos hlt.1, List.getElem?_eq_getElem hlt.2] at hj
              simp at hj
              rw [← hj, List.getD_eq_getElem?_getD, List.getElem?_eq_getElem hlt.2]; rfl
            rw [hu]
            by_cases h0 : j = 0
            · subst h0; simpa [Addr.add] using hc
            · simpa [Addr.add, h0] using hc
          have Hnews := Lib.hid hnews
          clear hnews
          refine wp_region_perm [(0, true), (1, true), (2, true), (3, true), (4, true), (6, true), (7, true), (8, true), (9, true), (10, true), (11, true), (12, true), (5, false), (13, false), (14, true), (15, false), (16, false), (17, true)] (fun w' => w'.cell? ⟨g5, 0, none⟩ = some (.int .i64 r.kind) ∧ w'.cell? ⟨g5, 1, none⟩ = some (.int .i64 r.n) ∧ w'.cell? ⟨g5, 2, none⟩ = some (.slice (some ad) r.asks.length uc)) rfl (by kernel_rfl) (by kernel_rfl) (by decide) (fun c a d v w h => by cases d <;> exact h) ⟨f0, f1, f2⟩ ?_
          refine perm_q (v := ?v2_0) (some 20) rfl rfl rfl ?q2_0 ?h2_0; (case q2_0 => (intro w' hS; obtain ⟨s1, s2, s3⟩ := hS; first | (go_simp; done) | (go_simp; rfl))); (try simp only [Act.put, List.setIfInBounds_toArray, List.set_cons_zero, List.set_cons_succ])
          refine perm_q (v := ?v2_1) (some 21) rfl rfl rfl ?q2_1 ?h2_1; (case q2_1 => (intro w' hS; obtain ⟨s1, s2, s3⟩ := hS; first | (go_simp; done) | (go_simp; rfl))); (try simp only [Act.put, List.setIfInBounds_toArray, List.set_cons_zero, List.set_cons_succ])
          refine perm_q (v := ?v2_2) (some 22) rfl rfl rfl ?q2_2 ?h2_2; (case q2_2 => (intro w' hS; obtain ⟨s1, s2, s3⟩ := hS; first | (go_simp; done) | (go_simp; rfl))); (try simp only [Act.put, List.setIfInBounds_toArray, List.set_cons_zero, List.set_cons_succ])
          refine perm_q (v := ?v2_3) (some 23) rfl rfl rfl ?q2_3 ?h2_3; (case q2_3 => (intro w' hS; obtain ⟨s1, s2, s3⟩ := hS; first | (go_simp; done) | (go_simp; rfl))); (try simp only [Act.put, List.setIfInBounds_toArray, List.set_cons_zero, List.set_cons_succ])
          refine perm_q (v := ?v2_4) (some 24) rfl rfl rfl ?q2_4 ?h2_4; (case q2_4 => (intro w' hS; obtain ⟨s1, s2, s3⟩ := hS; first | (go_simp; done) | (go_simp; rfl))); (try simp only [Act.put, List.setIfInBounds_toArray, List.set_cons_zero, List.set_cons_succ])
          refine perm_q (v := ?v2_6) (some 26) rfl rfl rfl ?q2_6 ?h2_6; (case q2_6 => (intro w' hS; obtain ⟨s1, s2, s3⟩ := hS; first | (go_simp; done) | (go_simp; rfl))); (try simp only [Act.put, List.setIfInBounds_toArray, List.set_cons_zero, List.set_cons_succ])
          refine perm_q (v := ?v2_7) (some 27) rfl rfl rfl ?q2_7 ?h2_7; (case q2_7 => (intro w' hS; obtain ⟨s1, s2, s3⟩ := hS; first | (go_simp; done) | (go_simp; rfl))); (try simp only [Act.put, List.setIfInBounds_toArray, List.set_cons_zero, List.set_cons_succ])
          refine perm_q (v := ?v2_8) (some 28) rfl rfl rfl ?q2_8 ?h2_8; (case q2_8 => (intro w' hS; obtain ⟨s1, s2, s3⟩ := hS; first | (go_simp; done) | (go_simp; rfl))); (try simp only [Act.put, List.setIfInBounds_toArray, List.set_cons_zero, List.set_cons_succ])
          refine perm_q (v := ?v2_9) (some 29) rfl rfl rfl ?q2_9 ?h2_9; (case q2_9 => (intro w' hS; obtain ⟨s1, s2, s3⟩ := hS; first | (go_simp; done) | (go_simp; rfl))); (try simp only [Act.put, List.setIfInBounds_toArray, List.set_cons_zero, List.set_cons_succ])
          refine perm_q (v := ?v2_10) (some 30) rfl rfl rfl ?q2_10 ?h2_10; (case q2_10 => (intro w' hS; obtain ⟨s1, s2, s3⟩ := hS; first | (go_simp; done) | (go_simp; rfl))); (try simp only [Act.put, List.setIfInBounds_toArray, List.set_cons_zero, List.set_cons_succ])
          refine perm_q (v := ?v2_11) (some 31) rfl rfl rfl ?q2_11 ?h2_11; (case q2_11 => (intro w' hS; obtain ⟨s1, s2, s3⟩ := hS; first | (go_simp; done) | (go_simp; rfl))); (try simp only [Act.put, List.setIfInBounds_toArray, List.set_cons_zero, List.set_cons_succ])
          refine perm_q (v := ?v2_12) (some 32) rfl rfl rfl ?q2_12 ?h2_12; (case q2_12 => (intro w' hS; obtain ⟨s1, s2, s3⟩ := hS; first | (go_simp; done) | (go_simp; rfl))); (try simp only [Act.put, List.setIfInBounds_toArray, List.set_cons_zero, List.set_cons_succ])
          refine perm_e rfl ?_   -- 5: buildSlice 23 0 []
          go_must (refine ev_slice (cs := #[]) (t := 3) (n := 0) (c := 0) rfl (by first | (go_simp; done) | (go_simp; rfl)) ?_; intro gB w3 hgB hlB hbB hk3)
          have HbB := Lib.hid hbB
          clear hbB
          (try simp only [Act.put, List.setIfInBounds_toArray, List.set_cons_zero, List.set_cons_succ])
          have f0 := hk3.cell (w := w2.drew) f0 id
          have f1 := hk3.cell (w := w2.drew) f1 id
          have f2 := hk3.cell (w := w2.drew) f2 id
          have HK3 := Lib.hid ((HK12.out.drew).trans hk3 (fun _ _ h => h))
          refine wpList_nil ⟨⟨f0, f1, f2⟩, ?_⟩
          refine perm_e rfl ?_   -- 13: call append(t25, t32) :#[23, 23]
          go_must (refine ev_append (W := w3) (xs := []) (n := 0) (m := m) (news := (r.asks.take m).map (Value.int .i64)) rfl rfl Tryd.underlying23 info3 rfl (by decide) (base := 0) rfl ⟨rfl, .inr ⟨gB, 0, #[], rfl, Nat.zero_le _, HbB.out, Nat.le_refl _, Nat.zero_le _, rfl, rfl⟩⟩ rfl (by rw [List.length_map, List.length_take]; omega) (fun _ => ⟨ad, rfl, fun j u hj => HK3.out.cell (Hnews.out j u hj ad rfl) id⟩) (fun u hu => by obtain ⟨x, _, rfl⟩ := List.mem_map.1 hu; rfl) (by omega) (by decide) (Nat.zero_le _) ?_; intro cv w4 hown4 hk4 hr4 hf4; obtain ⟨cA, cc, rfl⟩ := own_slice hown4)
          have Hown4 := Lib.hid hown4
          have Hr4 := Lib.hid hr4
          have HgB := Lib.hid (show w2.heap.size ≤ gB ∧ wr.heap.size ≤ gB from ⟨hgB, by have h1 := HK12.out.size; have h2 : w2.heap.size ≤ gB := hgB; omega⟩)
          have HK4 := Lib.hid (HK3.out.trans hk4 (fun i hi e => by have h1 := HgB.out; have e : some i = some gB := e; injection e with e; omega))
          have hg5B : ¬ some g5 = Value.ownBlock (.slice (some ⟨gB, 0, none⟩) 0 0) := fun e => by have e : some g5 = some gB := e; injection e with e; have h1 := HgB.out; have h2 := World.block_lt_of_cell? _ _ f0; have h3 : g5 < w2.heap.size := (by have h4 := hk2.size; omega); omega
          clear hown4 hf4 hr4
          (try simp only [Act.put, List.setIfInBounds_toArray, List.set_cons_zero, List.set_cons_succ])
          have f0 := hk4.cell f0 hg5B
          have f1 := hk4.cell f1 hg5B
          have f2 := hk4.cell f2 hg5B
          refine wpList_nil ⟨⟨f0, f1, f2⟩, ?_⟩
          refine perm_q (v := ?v2_14) (some 34) rfl rfl rfl ?q2_14 ?h2_14; (case q2_14 => (intro w' hS; obtain ⟨s1, s2, s3⟩ := hS; first | (go_simp; done) | (go_simp; rfl))); (try simp only [Act.put, List.setIfInBounds_toArray, List.set_cons_zero, List.set_cons_succ])
          refine perm_e rfl ?_   -- 15: buildSlice 22 1 [(0, t34)]
          go_must (refine ev_slice (cs := #[.int .i64 r.kind, .int .i64 r.n, .slice cA (0 + m) cc]) (t := 72) (n := 1) (c := 1) rfl (by first | (go_simp; done) | (go_simp; rfl)) ?_; intro g6 w5 hg6 hl6 hb6 hk6)
          have Hb6 := Lib.hid hb6
          clear hb6
          (try simp only [Act.put, List.setIfInBounds_toArray, List.set_cons_zero, List.set_cons_succ])
          have f0 := hk6.cell f0 id
          have f1 := hk6.cell f1 id
          have f2 := hk6.cell f2 id
          have HK15 := Lib.hid (HK4.out.trans hk6 (fun _ _ h => h))
          refine wpList_nil ⟨⟨f0, f1, f2⟩, ?_⟩
          refine perm_e rfl ?_   -- 16: call append(t20, t35) :#[22, 22]
          go_must (refine ev_append (W := w5) rfl rfl Tryd.underlying22 info72b rfl (by decide) (base := 0) rfl (ownsRow_keep hown.out HK15.out (fun _ _ => id)) (news := [.int .i64 r.kind, .int .i64 r.n, .slice cA (0 + m) cc]) rfl rfl (fun _ => ⟨_, rfl, World.news_of_block Hb6.out⟩) (by simp [Value.oneCell']) (by omega) (by decide) (Nat.zero_le _) ?_; intro ov6 w6 hown6 hk7 hr6 hf6)
          have Hown6 := Lib.hid hown6
          have Hr6 := Lib.hid hr6
          have hk7 : Keeps (fun k => some k = u3.ownBlock) w5 w6 := hk7
          have ho := fun b hb => (own_lt hown.out b hb).1
          have lg5 : wr.heap.size ≤ g5 ∧ g5 < w2.heap.size := ⟨hg5, by have h4 := hk2.size; omega⟩
          have z15 := HK15.out.size
          have hg5o : ¬ some g5 = u3.ownBlock := fun e => by have := ho g5 e.symm; omega
          (try simp only [Act.put, List.setIfInBounds_toArray, List.set_cons_zero, List.set_cons_succ])
          have f0 := hk7.cell f0 hg5o
          have f1 := hk7.cell f1 hg5o
          have f2 := hk7.cell f2 hg5o
          refine wpList_nil ⟨⟨f0, f1, f2⟩, ?_⟩
          refine perm_q (v := ?v2_17) (some 3) rfl rfl rfl ?q2_17 ?h2_17; (case q2_17 => (intro w' hS; obtain ⟨s1, s2, s3⟩ := hS; first | (go_simp; done) | (go_simp; rfl))); (try simp only [Act.put, List.setIfInBounds_toArray, List.set_cons_zero, List.set_cons_succ])
          refine perm_nil ?_
          clear f0 f1 f2
          go_wp2
          have z0 := hkeep.out.size
          have hk7' : Keeps Nob w w6 := (hkeep.out.trans HK15.out (fun _ _ h => h)).trans hk7 (fun i hi e => absurd (hob.out i e.symm) (by omega))
          refine ⟨⟨k + 1, ps ++ [(cutRule r, .slice cA (0 + m) cc)], by go_num, by omega, by omega, by simp [hpl], Lib.hid hk7', Lib.hid ?_, Lib.hid ?_, Lib.hid (fun b hb => ?_), Lib.hid (fun p hp => ?_)⟩, by simp [intOf]; omega⟩
          · rw [List.map_append, hmap.out, List.take_succ_eq_append_getElem (by rw [Hrl.out]; exact hlt), List.map_append]
            have := Hrd.out
            rw [List.getD_eq_getElem?_getD, List.getElem?_eq_getElem (by rw [Hrl.out]; exact hlt)] at this
            simp at this
            simp [this]
          · have := Hown6.out
            rw [List.length_append]
            simpa [flat, cutRule] using this
          · rcases Hr6.out with h | ⟨b', h, hl'⟩
            · exact hob.out b (show u3.ownBlock = some b from h.symm.trans hb)
            · rw [h] at hb; injection hb with hb; omega
          · have hfree : ∀ b, b < w5.heap.size → ¬ some b = Value.ownBlock (u3) → ¬ some b = ov6.ownBlock := fun b hb hn e => by
              rcases Hr6.out with h | ⟨b', h, hl'⟩
              · exact hn (e.trans h)
              · rw [h] at e; injection e with e; omega
            rcases List.mem_append.1 hp with hp | hp
            · exact ((hin.out p hp).keep (X' := fun b => w.heap.size ≤ b ∧ b < wr.heap.size ∧ ¬ some b = Value.ownBlock u3) HK15.out (fun _ _ _ => id) (fun _ _ h => h)).keep hk7 (fun b _ hx => hx.2.2) (fun b _ hx => ⟨hx.1, by have := hx.2.1; have := hk7.size; omega, hfree b (by have := hx.2.1; omega) hx.2.2⟩)
            · rw [List.mem_singleton.1 hp]
              have hi4 : IntsX w4 (fun b => wr.heap.size ≤ b ∧ b < w4.heap.size) (.slice cA (0 + m) cc) (cutRule r).asks := by
                have hl : (r.asks.take m).length = 0 + m := by rw [List.length_take]; omega
                have e : (cutRule r).asks = r.asks.take m := by show r.asks.take 14 = _; rw [Hm.out]; rcases Nat.le_total r.asks.length 14 with h | h; rw [Nat.min_eq_left h, List.take_of_length_le h, List.take_of_length_le (Nat.le_refl _)]; rw [Nat.min_eq_right h]
                rw [e]
                refine IntsX.own (xs := r.asks.take m) (by rw [hl]; exact Hown4.out) _ (fun k hkk => ⟨?_, (own_lt Hown4.out k hkk.symm).1⟩)
                rcases Hr4.out with h | ⟨b, h, hl⟩
                · rw [h] at hkk; have e : some k = some gB := hkk; injection e with e; have := HgB.out; omega
                · rw [h] at hkk; injection hkk with hkk; have := HK3.out.size; omega
              exact (hi4.keep (X' := fun b => wr.heap.size ≤ b ∧ b < w4.heap.size) hk6 (fun _ _ _ => id) (fun _ _ h => h)).keep hk7 (fun b _ hx e => by have := ho b e.symm; have := hx.1; omega) (fun b _ hx => ⟨by have := hx.1; omega, by have := hx.2; have := hk6.size; have := hk7.size; omega, hfree b (by have := hx.2; have := hk6.size; omega) (fun e => by have := ho b e.symm; have := hx.1; omega)⟩)
      · obtain rfl : k = 202 := by omega
        go_wp2
        go_ret
        refine ⟨_, rfl, hkeep.out, RulesX.own hown.out hmap.out _ (fun b hb => ⟨hob.out b hb.symm, (own_lt hown.out b hb.symm).1⟩) (fun p hp => (hin.out p hp).keep (Keeps.refl Nob _) (fun _ _ _ => id) (fun b _ h => ⟨h.1, h.2.1⟩))⟩
    · have hk' : k = rl := by omega
      subst hk'
      go_wp2
      go_ret
      refine ⟨_, rfl, hkeep.out, RulesX.own hown.out (by rw [hmap.out]; unfold cutAt; rw [List.take_of_length_le (by have := Hrl.out; omega), List.take_of_length_le (by have := Hrl.out; omega)]) _ (fun b hb => ⟨hob.out b hb.symm, (own_lt hown.out b hb.symm).1⟩) (fun p hp => (hin.out p hp).keep (Keeps.refl Nob _) (fun _ _ _ => id) (fun b _ h => ⟨h.1, h.2.1⟩))⟩
end Go.Proofs.QW

/-
  The rules and inputs that the statements of layer 22 work on (cut, and a list's first 202), in memory. Condition: rules and inputs lie.
-/
namespace Go.Proofs.QW
open Go.RowKit Go.Proofs.KL Go.Proofs.QM
set_option maxRecDepth 100000
set_option linter.unusedSimpArgs false
set_option linter.unusedVariables false

def cutM (rs : List QRule) : List QRule := if rs.length ≤ 200 then cutAt 202 (rs.take 40) else cutAt 202 rs
theorem RulesX.take {w : World} {X : Nat → Prop} {A : Option Addr} {n c m : Nat} {rs : List QRule} (h : RulesX w X (.slice A n c) rs) (hm : m ≤ rs.length) : RulesX w X (.slice A m c) (rs.take m) := by
  obtain ⟨A', c', h1, h2, h3⟩ := h
  injection h1 with h1 h4 h5
  subst h1; subst h5
  have hl : (rs.take m).length = m := by rw [List.length_take]; omega
  refine ⟨A, c, by rw [hl], by omega, fun i hi => ?_⟩
  rw [hl] at hi
  obtain ⟨b, o, u, e, hb, e0, e1, e2, hu⟩ := h3 i (by omega)
  have hg : (rs.take m).getD i default = rs.getD i default := by
    rw [List.getD_eq_getElem?_getD, List.getElem?_take, if_pos hi, List.getD_eq_getElem?_getD]
  rw [hg]
  exact ⟨b, o, u, e, hb, e0, e1, e2, hu⟩
theorem cutM_len (rs : List QRule) : (cutM rs).length ≤ 202 ∧ ((cutM rs).length ≤ 40 ∨ 200 < (cutM rs).length) := by
  unfold cutM cutAt
  split
  · rw [List.length_map, List.length_take, List.length_take]; omega
  · rw [List.length_map, List.length_take]; omega
theorem cutM_asks (rs : List QRule) : ∀ r ∈ cutM rs, r.asks.length ≤ 14 := by
  have h : ∀ (l : List QRule), ∀ r ∈ l.map cutRule, r.asks.length ≤ 14 := fun l r hr => by
    obtain ⟨x, _, rfl⟩ := List.mem_map.1 hr
    show (x.asks.take 14).length ≤ 14
    rw [List.length_take]; omega
  unfold cutM cutAt
  split
  · exact h _
  · exact h _
set_option maxHeartbeats 2000000 in
/-- CUT, of the statements. -/
theorem cut_any (rs : List QRule) (w : World) (X : Nat → Prop) (rv : Value) (hr : RulesX w X rv rs) :
    Calls Tryd.prog 10 #[rv] w fun e w' => ∃ v', e = .returned v' ∧ Keeps Nob w w' ∧ RulesX w' (fun k => w.heap.size ≤ k ∧ k < w'.heap.size) v' (cutM rs) := by
  obtain ⟨A, c, rfl, hcc, hcell⟩ := id hr
  have HR := Lib.hid hr
  have hnone : A = none → rs.length = 0 := fun e => by
    rcases Nat.eq_zero_or_pos rs.length with h | h
    · exact h
    · obtain ⟨b, o, u, h2, _⟩ := hcell 0 h; rw [e] at h2; cases h2
  clear hr hcell
  unfold cutM
  by_cases hl : rs.length ≤ 200
  · rw [if_pos hl]
    obtain ⟨m, hm⟩ : ∃ m : Nat, m = min rs.length 40 := ⟨_, rfl⟩
    have hmin : (if (40 : Int) < (rs.length : Int) then (40 : Int) else (rs.length : Int)) = (m : Int) := by split <;> omega
    have hm1 : m ≤ rs.length := by omega
    have hm3 : m ≤ c := by omega
    have hrun := Cut_any (rs.take m) w X (.slice A m c) (HR.out.take hm1)
    have htk : rs.take 40 = rs.take m := by
      rw [hm]
      rcases Nat.le_total rs.length 40 with h | h
      · rw [Nat.min_eq_left h, List.take_of_length_le h, List.take_of_length_le (Nat.le_refl _)]
      · rw [Nat.min_eq_right h]
    rw [htk]
    have Hrun := Lib.hid hrun
    have hli : (rs.length : Int) ≤ 200 := by omega
    clear hrun htk hm
    cases A with
    | none =>
      have h0 := hnone rfl
      have hm0 : m = 0 := by omega
      subst hm0
      go_enter Tryd.func10, Tryd.ntmps10
      go_wp2_with (go_at_call 33; go_must (refine Hrun.out.mono ?_; rintro e w2 ⟨v', rfl, hk, hx⟩))
      go_ret
      exact ⟨v', rfl, hk, hx⟩
    | some ad =>
      clear hnone
      go_enter Tryd.func10, Tryd.ntmps10
      go_wp2_with (go_at_call 33; go_must (refine Hrun.out.mono ?_; rintro e w2 ⟨v', rfl, hk, hx⟩))
      go_ret
      exact ⟨v', rfl, hk, hx⟩
  · rw [if_neg hl]
    have hrun := Cut_any rs w X _ HR.out
    have Hrun := Lib.hid hrun
    have hli : ¬ (rs.length : Int) ≤ 200 := by omega
    clear hrun hnone
    go_enter Tryd.func10, Tryd.ntmps10
    go_wp2_with (go_at_call 33; go_must (refine Hrun.out.mono ?_; rintro e w2 ⟨v', rfl, hk, hx⟩))
    go_ret
    exact ⟨v', rfl, hk, hx⟩
end Go.Proofs.QW

/-
  Whether values may be those of inputs (the specification's Values), in memory. No condition.
-/
namespace Go.Proofs.QW
open Go.RowKit Go.Proofs.KL Go.Proofs.QM
set_option maxRecDepth 100000
set_option linter.unusedSimpArgs false
set_option linter.unusedVariables false

def valuesOk (rs : List QRule) (vs : List Int) : Bool := decide (vs.length = rs.length) && !(badV rs vs)
set_option maxHeartbeats 2000000 in
theorem Values_any (rs : List QRule) (vs : List Int) (w : World) (X X' : Nat → Prop) (rv iv : Value) (hr : RulesX w X rv rs) (hv : IntsX w X' iv vs) (h200 : rs.length ≤ 200) :
    Calls Tryd.prog 12 #[rv, iv] w fun e w' => e = .returned (.bool (valuesOk rs vs)) ∧ w' = w := by
  obtain ⟨rA, rc, rfl, -, hrc⟩ := id hr
  obtain ⟨vA, vc, rfl, -, hvc⟩ := id hv
  have Hrc := Lib.hid hrc
  have Hvc := Lib.hid hvc
  clear hr hv hrc hvc
  obtain ⟨t, ht⟩ : ∃ t, valuesOk rs vs = t := ⟨_, rfl⟩
  rw [ht]
  have Ht := Lib.hid ht
  clear ht
  by_cases hl : vs.length = rs.length
  · have Hl := Lib.hid hl
    have hlb : ((vs.length : Int) != (rs.length : Int)) = false := by simp [hl]
    clear hl
    go_enter Tryd.func12, Tryd.ntmps12
    go_wp2
    go_loopw [14] (fun v wr => ∃ k : Nat, v = .int .i64 k ∧ k ≤ rs.length ∧ wr = w ∧ Hid (∀ i, i < k → badAt rs vs i = false))
      (fun v _ => rs.length - (intOf v).toNat)
    case atStart => exact ⟨0, rfl, Nat.zero_le _, rfl, Lib.hid (fun i h => absurd h (by omega))⟩
    case round =>
      obtain ⟨k, rfl, hk, rfl, hgood⟩ := hrel
      by_cases hlt : k < rs.length
      · obtain ⟨b, o, rfl, _, hcw⟩ := Hvc.out k (by rw [Hl.out]; exact hlt)
        obtain ⟨b2, o2, u, rfl, _, e0, -, -, -⟩ := Hrc.out k hlt
        have hlv : (k : Int) < vs.length := by have := Hl.out; omega
        have hbk := Lib.hid (show badAt rs vs k = ((rs.getD k default).kind == 1 && (decide (vs.getD k 0 < 0) || decide (1048576 < vs.getD k 0))) from rfl)
        generalize rs.getD k default = r at *
        generalize vs.getD k 0 = v at *
        obtain ⟨kb, hkb⟩ : ∃ x, (r.kind == 1) = x := ⟨_, rfl⟩
        have hb2 := hbk.out
        rw [hkb] at hb2
        by_cases hbad : kb = true ∧ (v < 0 ∨ 1048576 < v)
        · obtain ⟨rfl, hbv⟩ := hbad
          have hbt : badAt rs vs k = true := by rw [hb2]; simp; omega
          have hf := Lib.hid (show t = false by
            rw [← Ht.out]; unfold valuesOk
            rw [show badV rs vs = true from List.any_eq_true.2 ⟨k, List.mem_range.2 hlt, hbt⟩]; simp)
          clear hb2 hbt hbk
          by_cases h1 : v < 0
          · clear hbv
            go_wp2
            go_ret
            exact ⟨by rw [hf.out]; rfl, rfl⟩
          · have h2 : 1048576 < v := by omega
            clear hbv
            go_wp2
            go_ret
            exact ⟨by rw [hf.out]; rfl, rfl⟩
        · have hgk := Lib.hid (show badAt rs vs k = false by
            rw [hb2]
            cases kb with
            | false => rfl
            | true => simp at hbad ⊢; omega)
          clear hb2 hbk
          have Hg := Lib.hid (show ∀ i, i < k + 1 → badAt rs vs i = false from fun i hi => by
            by_cases e : i = k
            · rw [e]; exact hgk.out
            · exact hgood.out i (by omega))
          cases kb with
          | false =>
            clear hbad
            go_wp2
            go_roundw
            case rel => exact ⟨k + 1, by go_num, by omega, by first | rfl | trivial, Hg⟩
            case measure => simp [intOf]; omega
          | true =>
            have v0 : ¬ v < 0 := fun h => hbad ⟨rfl, .inl h⟩
            have v1 : ¬ 1048576 < v := fun h => hbad ⟨rfl, .inr h⟩
            clear hbad
            go_wp2
            go_roundw
            case rel => exact ⟨k + 1, by go_num, by omega, by first | rfl | trivial, Hg⟩
            case measure => simp [intOf]; omega
      · have hk' : k = rs.length := by omega
        subst hk'
        have hnl : ¬ (rs.length : Int) < vs.length := by have := Hl.out; omega
        have hf := Lib.hid (show t = true by
          rw [← Ht.out]; unfold valuesOk
          rw [show badV rs vs = false from by
            unfold badV
            rw [List.any_eq_false]
            intro i hi
            rw [hgood.out i (List.mem_range.1 hi)]
            decide]
          simp [Hl.out])
        go_wp2
        go_ret
        exact ⟨by rw [hf.out]; rfl, rfl⟩
  · have hlb : ((vs.length : Int) != (rs.length : Int)) = true := by simp; omega
    have hf : t = false := by rw [← Ht.out]; unfold valuesOk; rw [decide_eq_false hl]; rfl
    clear hl
    go_enter Tryd.func12, Tryd.ntmps12
    go_wp2
    go_ret
    exact ⟨by rw [hf]; rfl, rfl⟩
end Go.Proofs.QW

/-
  The specification's Check of rules, in memory: the model's 'check'. No condition.
-/
namespace Go.Proofs.QW
open Go.RowKit Go.Proofs.KL Go.Proofs.QM
set_option maxRecDepth 100000
set_option linter.unusedSimpArgs false
set_option linter.unusedVariables false

theorem within_any (n low high : Int) (w : World) : Calls Tryd.prog 54 #[.int .i64 n, .int .i64 low, .int .i64 high] w fun e w' => e = .returned (.bool (decide (low ≤ n) && decide (n ≤ high))) ∧ w = w' := by
  by_cases h : low ≤ n
  · have hd : decide (low ≤ n) = true := decide_eq_true h
    go_enter Tryd.func54, Tryd.ntmps54
    go_wp2
    go_ret
    exact ⟨by simp [hd], rfl⟩
  · have hd : decide (low ≤ n) = false := decide_eq_false h
    go_enter Tryd.func54, Tryd.ntmps54
    go_wp2
    go_ret
    exact ⟨by simp [hd], rfl⟩
set_option maxHeartbeats 2000000 in
theorem one_1 (n : Int) (asks : List Int) (A' : Option Addr) (many c' : Nat) (w : World) (X : Nat → Prop) (sv : Value) (hx : IntsX w X sv asks) :
    Calls Tryd.prog 34 #[.slice A' many c', .agg #[.int .i64 1, .int .i64 n, sv]] w fun e w' => e = .returned (.int .i64 (ruleErr many ⟨1, n, asks⟩)) ∧ Keeps Nob w w' := by
  obtain ⟨A, c, rfl, -, hcell⟩ := id hx
  obtain ⟨er, her⟩ : ∃ x, ruleErr many ⟨1, n, asks⟩ = x := ⟨_, rfl⟩
  rw [her]
  unfold ruleErr at her
  rw [if_neg (by show ¬ ((1 : Int) < 1 ∨ (7 : Int) ≤ 1); decide), show bnds 1 = (0, 0, 0, 0) from rfl] at her
  dsimp only at her
  have Hcell := Lib.hid hcell
  have Her := Lib.hid her
  clear hx hcell her
  by_cases h1 : (decide ((0 : Int) ≤ n) && decide (n ≤ (0 : Int))) = true
  · have her := Her.out
    rw [if_neg (by simp at h1; omega)] at her
    have H1 := Lib.hid h1
    clear h1
    by_cases h2 : 12 < (asks.length : Int)
    · rw [if_pos h2] at her
      have hkr := Lib.hid her
      clear Her her
      go_enter Tryd.func34, Tryd.ntmps34
      go_wp2_with (first
        | ((with_reducible refine at_dst (N := 3) rfl ?_); go_must (refine ev_box (cs := #[.int .i64 1, .int .i64 n, .slice A asks.length c]) rfl rfl rfl ?_; intro g3 w1 hg3 hl3 hb3 hk3); have f0 := (blk_cell hb3 0).trans rfl; have f1 := (blk_cell hb3 1).trans rfl; have f2 := (blk_cell hb3 2).trans rfl; clear hb3; (try simp only [Act.put, List.setIfInBounds_toArray, List.set_cons_zero, List.set_cons_succ]))
        | (go_at_call 54; go_must (refine (within_any _ _ _ _).mono ?_; rintro e w' ⟨rfl, rfl⟩; rw [H1.out])))
      go_ret
      exact ⟨by rw [← hkr.out]; rfl, hk3⟩
    rw [if_neg h2] at her
    by_cases h3 : (decide ((0 : Int) ≤ (asks.length : Int)) && decide ((asks.length : Int) ≤ (0 : Int))) = true
    · rw [if_neg (by rw [Bool.and_eq_true, decide_eq_true_eq, decide_eq_true_eq] at h3; omega)] at her
      have Her2 := Lib.hid her
      have H3 := Lib.hid h3
      clear her Her h3
      have hal : (asks.length : Int) ≤ 12 := by omega
      go_enter Tryd.func34, Tryd.ntmps34
      go_wp2_with (first
        | ((with_reducible refine at_dst (N := 3) rfl ?_); go_must (refine ev_box (cs := #[.int .i64 1, .int .i64 n, .slice A asks.length c]) rfl rfl rfl ?_; intro g3 w1 hg3 hl3 hb3 hk3); have f0 := (blk_cell hb3 0).trans rfl; have f1 := (blk_cell hb3 1).trans rfl; have f2 := (blk_cell hb3 2).trans rfl; clear hb3; (try simp only [Act.put, List.setIfInBounds_toArray, List.set_cons_zero, List.set_cons_succ]))
        | (go_at_call 54; go_must (refine (within_any _ _ _ _).mono ?_; rintro e w' ⟨rfl, rfl⟩; first | rw [H1.out] | rw [H3.out])))
      have HK := Lib.hid hk3
      clear hk3
      go_loopw [48] (fun v wr => ∃ k : Nat, v = .int .i64 k ∧ k ≤ asks.length ∧ wr = w1 ∧ Hid ((asks.drop k).any (askOut many) = asks.any (askOut many)))
        (fun v _ => asks.length - (intOf v).toNat)
      case atStart => exact ⟨0, rfl, Nat.zero_le _, rfl, Lib.hid rfl⟩
      case round =>
        obtain ⟨k, rfl, hk, rfl, hst⟩ := hrel
        by_cases hlt : k < asks.length
        · obtain ⟨b, o, rfl, _, hcw⟩ := Hcell.out k hlt
          have hcw := HK.out.cell hcw id
          have hstep : (asks.drop k).any (askOut many) = (askOut many (asks.getD k 0) || (asks.drop (k + 1)).any (askOut many)) := by
            rw [drop_getD hlt, List.any_cons]
          rw [hst.out] at hstep
          unfold askOut at hstep
          have Hstep := Lib.hid hstep
          clear hstep
          generalize asks.getD k 0 = q at *
          by_cases hq0 : q < 0
          · have hf := Lib.hid (show er = 5 by rw [← Her2.out, if_pos (by have := Hstep.out; simp [hq0] at this; unfold askOut; simpa using this)])
            go_wp2
            go_ret
            exact ⟨by rw [hf.out]; rfl, HK.out⟩
          by_cases hq1 : (many : Int) ≤ q
          · have hf := Lib.hid (show er = 5 by rw [← Her2.out, if_pos (by have := Hstep.out; simp [hq1] at this; unfold askOut; simpa using this)])
            go_wp2
            go_ret
            exact ⟨by rw [hf.out]; rfl, HK.out⟩
          have Hn := Lib.hid (show (asks.drop (k + 1)).any (askOut many) = asks.any (askOut many) by
            have h := Hstep.out
            rw [decide_eq_false hq0, decide_eq_false hq1, Bool.false_or, Bool.false_or] at h
            exact h.symm)
          go_wp2
          go_roundw
          case rel => exact ⟨k + 1, by go_num, by omega, by first | rfl | trivial, Hn⟩
          case measure => simp [intOf]; omega
        · have hk' : k = asks.length := by omega
          subst hk'
          have hf := Lib.hid (show er = 0 by
            rw [← Her2.out, if_neg]
            rw [← hst.out, List.drop_length]; simp)
          go_wp2
          go_ret
          exact ⟨by rw [hf.out]; rfl, HK.out⟩
    · rw [if_pos (by rw [Bool.and_eq_true, decide_eq_true_eq, decide_eq_true_eq] at h3; omega)] at her
      have h3' : (decide ((0 : Int) ≤ (asks.length : Int)) && decide ((asks.length : Int) ≤ (0 : Int))) = false := by simpa only [Bool.not_eq_true] using h3
      have hkr := Lib.hid her
      have H3 := Lib.hid h3'
      clear Her her h3 h3'
      go_enter Tryd.func34, Tryd.ntmps34
      go_wp2_with (first
        | ((with_reducible refine at_dst (N := 3) rfl ?_); go_must (refine ev_box (cs := #[.int .i64 1, .int .i64 n, .slice A asks.length c]) rfl rfl rfl ?_; intro g3 w1 hg3 hl3 hb3 hk3); have f0 := (blk_cell hb3 0).trans rfl; have f1 := (blk_cell hb3 1).trans rfl; have f2 := (blk_cell hb3 2).trans rfl; clear hb3; (try simp only [Act.put, List.setIfInBounds_toArray, List.set_cons_zero, List.set_cons_succ]))
        | (go_at_call 54; go_must (refine (within_any _ _ _ _).mono ?_; rintro e w' ⟨rfl, rfl⟩; first | rw [H1.out] | rw [H3.out])))
      go_ret
      exact ⟨by rw [← hkr.out]; rfl, hk3⟩
  · have h1' : (decide ((0 : Int) ≤ n) && decide (n ≤ (0 : Int))) = false := by simpa only [Bool.not_eq_true] using h1
    have her := Her.out
    rw [if_pos (by simp at h1; omega)] at her
    have hkr := Lib.hid her
    have H1 := Lib.hid h1'
    clear Her her h1 h1'
    go_enter Tryd.func34, Tryd.ntmps34
    go_wp2_with (first
      | ((with_reducible refine at_dst (N := 3) rfl ?_); go_must (refine ev_box (cs := #[.int .i64 1, .int .i64 n, .slice A asks.length c]) rfl rfl rfl ?_; intro g3 w1 hg3 hl3 hb3 hk3); have f0 := (blk_cell hb3 0).trans rfl; have f1 := (blk_cell hb3 1).trans rfl; have f2 := (blk_cell hb3 2).trans rfl; clear hb3; (try simp only [Act.put, List.setIfInBounds_toArray, List.set_cons_zero, List.set_cons_succ]))
      | (go_at_call 54; go_must (refine (within_any _ _ _ _).mono ?_; rintro e w' ⟨rfl, rfl⟩; rw [H1.out])))
    go_ret
    exact ⟨by rw [← hkr.out]; rfl, hk3⟩
set_option maxHeartbeats 2000000 in
theorem one_2 (n : Int) (asks : List Int) (A' : Option Addr) (many c' : Nat) (w : World) (X : Nat → Prop) (sv : Value) (hx : IntsX w X sv asks) :
    Calls Tryd.prog 34 #[.slice A' many c', .agg #[.int .i64 2, .int .i64 n, sv]] w fun e w' => e = .returned (.int .i64 (ruleErr many ⟨2, n, asks⟩)) ∧ Keeps Nob w w' := by
  obtain ⟨A, c, rfl, -, hcell⟩ := id hx
  obtain ⟨er, her⟩ : ∃ x, ruleErr many ⟨2, n, asks⟩ = x := ⟨_, rfl⟩
  rw [her]
  unfold ruleErr at her
  rw [if_neg (by show ¬ ((2 : Int) < 1 ∨ (7 : Int) ≤ 2); decide), show bnds 2 = (0, 12, 1, 1048576) from rfl] at her
  dsimp only at her
  have Hcell := Lib.hid hcell
  have Her := Lib.hid her
  clear hx hcell her
  by_cases h1 : (decide ((1 : Int) ≤ n) && decide (n ≤ (1048576 : Int))) = true
  · have her := Her.out
    rw [if_neg (by simp at h1; omega)] at her
    have H1 := Lib.hid h1
    clear h1
    by_cases h2 : 12 < (asks.length : Int)
    · rw [if_pos h2] at her
      have hkr := Lib.hid her
      clear Her her
      go_enter Tryd.func34, Tryd.ntmps34
      go_wp2_with (first
        | ((with_reducible refine at_dst (N := 3) rfl ?_); go_must (refine ev_box (cs := #[.int .i64 2, .int .i64 n, .slice A asks.length c]) rfl rfl rfl ?_; intro g3 w1 hg3 hl3 hb3 hk3); have f0 := (blk_cell hb3 0).trans rfl; have f1 := (blk_cell hb3 1).trans rfl; have f2 := (blk_cell hb3 2).trans rfl; clear hb3; (try simp only [Act.put, List.setIfInBounds_toArray, List.set_cons_zero, List.set_cons_succ]))
        | (go_at_call 54; go_must (refine (within_any _ _ _ _).mono ?_; rintro e w' ⟨rfl, rfl⟩; rw [H1.out])))
      go_ret
      exact ⟨by rw [← hkr.out]; rfl, hk3⟩
    rw [if_neg h2] at her
    by_cases h3 : (decide ((0 : Int) ≤ (asks.length : Int)) && decide ((asks.length : Int) ≤ (12 : Int))) = true
    · rw [if_neg (by rw [Bool.and_eq_true, decide_eq_true_eq, decide_eq_true_eq] at h3; omega)] at her
      have Her2 := Lib.hid her
      have H3 := Lib.hid h3
      clear her Her h3
      have hal : (asks.length : Int) ≤ 12 := by omega
      go_enter Tryd.func34, Tryd.ntmps34
      go_wp2_with (first
        | ((with_reducible refine at_dst (N := 3) rfl ?_); go_must (refine ev_box (cs := #[.int .i64 2, .int .i64 n, .slice A asks.length c]) rfl rfl rfl ?_; intro g3 w1 hg3 hl3 hb3 hk3); have f0 := (blk_cell hb3 0).trans rfl; have f1 := (blk_cell hb3 1).trans rfl; have f2 := (blk_cell hb3 2).trans rfl; clear hb3; (try simp only [Act.put, List.setIfInBounds_toArray, List.set_cons_zero, List.set_cons_succ]))
        | (go_at_call 54; go_must (refine (within_any _ _ _ _).mono ?_; rintro e w' ⟨rfl, rfl⟩; first | rw [H1.out] | rw [H3.out])))
      have HK := Lib.hid hk3
      clear hk3
      go_loopw [48] (fun v wr => ∃ k : Nat, v = .int .i64 k ∧ k ≤ asks.length ∧ wr = w1 ∧ Hid ((asks.drop k).any (askOut many) = asks.any (askOut many)))
        (fun v _ => asks.length - (intOf v).toNat)
      case atStart => exact ⟨0, rfl, Nat.zero_le _, rfl, Lib.hid rfl⟩
      case round =>
        obtain ⟨k, rfl, hk, rfl, hst⟩ := hrel
        by_cases hlt : k < asks.length
        · obtain ⟨b, o, rfl, _, hcw⟩ := Hcell.out k hlt
          have hcw := HK.out.cell hcw id
          have hstep : (asks.drop k).any (askOut many) = (askOut many (asks.getD k 0) || (asks.drop (k + 1)).any (askOut many)) := by
            rw [drop_getD hlt, List.any_cons]
          rw [hst.out] at hstep
          unfold askOut at hstep
          have Hstep := Lib.hid hstep
          clear hstep
          generalize asks.getD k 0 = q at *
          by_cases hq0 : q < 0
          · have hf := Lib.hid (show er = 5 by rw [← Her2.out, if_pos (by have := Hstep.out; simp [hq0] at this; unfold askOut; simpa using this)])
            go_wp2
            go_ret
            exact ⟨by rw [hf.out]; rfl, HK.out⟩
          by_cases hq1 : (many : Int) ≤ q
          · have hf := Lib.hid (show er = 5 by rw [← Her2.out, if_pos (by have := Hstep.out; simp [hq1] at this; unfold askOut; simpa using this)])
            go_wp2
            go_ret
            exact ⟨by rw [hf.out]; rfl, HK.out⟩
          have Hn := Lib.hid (show (asks.drop (k + 1)).any (askOut many) = asks.any (askOut many) by
            have h := Hstep.out
            rw [decide_eq_false hq0, decide_eq_false hq1, Bool.false_or, Bool.false_or] at h
            exact h.symm)
          go_wp2
          go_roundw
          case rel => exact ⟨k + 1, by go_num, by omega, by first | rfl | trivial, Hn⟩
          case measure => simp [intOf]; omega
        · have hk' : k = asks.length := by omega
          subst hk'
          have hf := Lib.hid (show er = 0 by
            rw [← Her2.out, if_neg]
            rw [← hst.out, List.drop_length]; simp)
          go_wp2
          go_ret
          exact ⟨by rw [hf.out]; rfl, HK.out⟩
    · rw [if_pos (by rw [Bool.and_eq_true, decide_eq_true_eq, decide_eq_true_eq] at h3; omega)] at her
      have h3' : (decide ((0 : Int) ≤ (asks.length : Int)) && decide ((asks.length : Int) ≤ (12 : Int))) = false := by simpa only [Bool.not_eq_true] using h3
      have hkr := Lib.hid her
      have H3 := Lib.hid h3'
      clear Her her h3 h3'
      go_enter Tryd.func34, Tryd.ntmps34
      go_wp2_with (first
        | ((with_reducible refine at_dst (N := 3) rfl ?_); go_must (refine ev_box (cs := #[.int .i64 2, .int .i64 n, .slice A asks.length c]) rfl rfl rfl ?_; intro g3 w1 hg3 hl3 hb3 hk3); have f0 := (blk_cell hb3 0).trans rfl; have f1 := (blk_cell hb3 1).trans rfl; have f2 := (blk_cell hb3 2).trans rfl; clear hb3; (try simp only [Act.put, List.setIfInBounds_toArray, List.set_cons_zero, List.set_cons_succ]))
        | (go_at_call 54; go_must (refine (within_any _ _ _ _).mono ?_; rintro e w' ⟨rfl, rfl⟩; first | rw [H1.out] | rw [H3.out])))
      go_ret
      exact ⟨by rw [← hkr.out]; rfl, hk3⟩
  · have h1' : (decide ((1 : Int) ≤ n) && decide (n ≤ (1048576 : Int))) = false := by simpa only [Bool.not_eq_true] using h1
    have her := Her.out
    rw [if_pos (by simp at h1; omega)] at her
    have hkr := Lib.hid her
    have H1 := Lib.hid h1'
    clear Her her h1 h1'
    go_enter Tryd.func34, Tryd.ntmps34
    go_wp2_with (first
      | ((with_reducible refine at_dst (N := 3) rfl ?_); go_must (refine ev_box (cs := #[.int .i64 2, .int .i64 n, .slice A asks.length c]) rfl rfl rfl ?_; intro g3 w1 hg3 hl3 hb3 hk3); have f0 := (blk_cell hb3 0).trans rfl; have f1 := (blk_cell hb3 1).trans rfl; have f2 := (blk_cell hb3 2).trans rfl; clear hb3; (try simp only [Act.put, List.setIfInBounds_toArray, List.set_cons_zero, List.set_cons_succ]))
      | (go_at_call 54; go_must (refine (within_any _ _ _ _).mono ?_; rintro e w' ⟨rfl, rfl⟩; rw [H1.out])))
    go_ret
    exact ⟨by rw [← hkr.out]; rfl, hk3⟩
set_option maxHeartbeats 2000000 in
theorem one_3 (n : Int) (asks : List Int) (A' : Option Addr) (many c' : Nat) (w : World) (X : Nat → Prop) (sv : Value) (hx : IntsX w X sv asks) :
    Calls Tryd.prog 34 #[.slice A' many c', .agg #[.int .i64 3, .int .i64 n, sv]] w fun e w' => e = .returned (.int .i64 (ruleErr many ⟨3, n, asks⟩)) ∧ Keeps Nob w w' := by
  obtain ⟨A, c, rfl, -, hcell⟩ := id hx
  obtain ⟨er, her⟩ : ∃ x, ruleErr many ⟨3, n, asks⟩ = x := ⟨_, rfl⟩
  rw [her]
  unfold ruleErr at her
  rw [if_neg (by show ¬ ((3 : Int) < 1 ∨ (7 : Int) ≤ 3); decide), show bnds 3 = (2, 12, 0, 0) from rfl] at her
  dsimp only at her
  have Hcell := Lib.hid hcell
  have Her := Lib.hid her
  clear hx hcell her
  by_cases h1 : (decide ((0 : Int) ≤ n) && decide (n ≤ (0 : Int))) = true
  · have her := Her.out
    rw [if_neg (by simp at h1; omega)] at her
    have H1 := Lib.hid h1
    clear h1
    by_cases h2 : 12 < (asks.length : Int)
    · rw [if_pos h2] at her
      have hkr := Lib.hid her
      clear Her her
      go_enter Tryd.func34, Tryd.ntmps34
      go_wp2_with (first
        | ((with_reducible refine at_dst (N := 3) rfl ?_); go_must (refine ev_box (cs := #[.int .i64 3, .int .i64 n, .slice A asks.length c]) rfl rfl rfl ?_; intro g3 w1 hg3 hl3 hb3 hk3); have f0 := (blk_cell hb3 0).trans rfl; have f1 := (blk_cell hb3 1).trans rfl; have f2 := (blk_cell hb3 2).trans rfl; clear hb3; (try simp only [Act.put, List.setIfInBounds_toArray, List.set_cons_zero, List.set_cons_succ]))
        | (go_at_call 54; go_must (refine (within_any _ _ _ _).mono ?_; rintro e w' ⟨rfl, rfl⟩; rw [H1.out])))
      go_ret
      exact ⟨by rw [← hkr.out]; rfl, hk3⟩
    rw [if_neg h2] at her
    by_cases h3 : (decide ((2 : Int) ≤ (asks.length : Int)) && decide ((asks.length : Int) ≤ (12 : Int))) = true
    · rw [if_neg (by rw [Bool.and_eq_true, decide_eq_true_eq, decide_eq_true_eq] at h3; omega)] at her
      have Her2 := Lib.hid her
      have H3 := Lib.hid h3
      clear her Her h3
      have hal : (asks.length : Int) ≤ 12 := by omega
      go_enter Tryd.func34, Tryd.ntmps34
      go_wp2_with (first
        | ((with_reducible refine at_dst (N := 3) rfl ?_); go_must (refine ev_box (cs := #[.int .i64 3, .int .i64 n, .slice A asks.length c]) rfl rfl rfl ?_; intro g3 w1 hg3 hl3 hb3 hk3); have f0 := (blk_cell hb3 0).trans rfl; have f1 := (blk_cell hb3 1).trans rfl; have f2 := (blk_cell hb3 2).trans rfl; clear hb3; (try simp only [Act.put, List.setIfInBounds_toArray, List.set_cons_zero, List.set_cons_succ]))
        | (go_at_call 54; go_must (refine (within_any _ _ _ _).mono ?_; rintro e w' ⟨rfl, rfl⟩; first | rw [H1.out] | rw [H3.out])))
      have HK := Lib.hid hk3
      clear hk3
      go_loopw [48] (fun v wr => ∃ k : Nat, v = .int .i64 k ∧ k ≤ asks.length ∧ wr = w1 ∧ Hid ((asks.drop k).any (askOut many) = asks.any (askOut many)))
        (fun v _ => asks.length - (intOf v).toNat)
      case atStart => exact ⟨0, rfl, Nat.zero_le _, rfl, Lib.hid rfl⟩
      case round =>
        obtain ⟨k, rfl, hk, rfl, hst⟩ := hrel
        by_cases hlt : k < asks.length
        · obtain ⟨b, o, rfl, _, hcw⟩ := Hcell.out k hlt
          have hcw := HK.out.cell hcw id
          have hstep : (asks.drop k).any (askOut many) = (askOut many (asks.getD k 0) || (asks.drop (k + 1)).any (askOut many)) := by
            rw [drop_getD hlt, List.any_cons]
          rw [hst.out] at hstep
          unfold askOut at hstep
          have Hstep := Lib.hid hstep
          clear hstep
          generalize asks.getD k 0 = q at *
          by_cases hq0 : q < 0
          · have hf := Lib.hid (show er = 5 by rw [← Her2.out, if_pos (by have := Hstep.out; simp [hq0] at this; unfold askOut; simpa using this)])
            go_wp2
            go_ret
            exact ⟨by rw [hf.out]; rfl, HK.out⟩
          by_cases hq1 : (many : Int) ≤ q
          · have hf := Lib.hid (show er = 5 by rw [← Her2.out, if_pos (by have := Hstep.out; simp [hq1] at this; unfold askOut; simpa using this)])
            go_wp2
            go_ret
            exact ⟨by rw [hf.out]; rfl, HK.out⟩
          have Hn := Lib.hid (show (asks.drop (k + 1)).any (askOut many) = asks.any (askOut many) by
            have h := Hstep.out
            rw [decide_eq_false hq0, decide_eq_false hq1, Bool.false_or, Bool.false_or] at h
            exact h.symm)
          go_wp2
          go_roundw
          case rel => exact ⟨k + 1, by go_num, by omega, by first | rfl | trivial, Hn⟩
          case measure => simp [intOf]; omega
        · have hk' : k = asks.length := by omega
          subst hk'
          have hf := Lib.hid (show er = 0 by
            rw [← Her2.out, if_neg]
            rw [← hst.out, List.drop_length]; simp)
          go_wp2
          go_ret
          exact ⟨by rw [hf.out]; rfl, HK.out⟩
    · rw [if_pos (by rw [Bool.and_eq_true, decide_eq_true_eq, decide_eq_true_eq] at h3; omega)] at her
      have h3' : (decide ((2 : Int) ≤ (asks.length : Int)) && decide ((asks.length : Int) ≤ (12 : Int))) = false := by simpa only [Bool.not_eq_true] using h3
      have hkr := Lib.hid her
      have H3 := Lib.hid h3'
      clear Her her h3 h3'
      go_enter Tryd.func34, Tryd.ntmps34
      go_wp2_with (first
        | ((with_reducible refine at_dst (N := 3) rfl ?_); go_must (refine ev_box (cs := #[.int .i64 3, .int .i64 n, .slice A asks.length c]) rfl rfl rfl ?_; intro g3 w1 hg3 hl3 hb3 hk3); have f0 := (blk_cell hb3 0).trans rfl; have f1 := (blk_cell hb3 1).trans rfl; have f2 := (blk_cell hb3 2).trans rfl; clear hb3; (try simp only [Act.put, List.setIfInBounds_toArray, List.set_cons_zero, List.set_cons_succ]))
        | (go_at_call 54; go_must (refine (within_any _ _ _ _).mono ?_; rintro e w' ⟨rfl, rfl⟩; first | rw [H1.out] | rw [H3.out])))
      go_ret
      exact ⟨by rw [← hkr.out]; rfl, hk3⟩
  · have h1' : (decide ((0 : Int) ≤ n) && decide (n ≤ (0 : Int))) = false := by simpa only [Bool.not_eq_true] using h1
    have her := Her.out
    rw [if_pos (by simp at h1; omega)] at her
    have hkr := Lib.hid her
    have H1 := Lib.hid h1'
    clear Her her h1 h1'
    go_enter Tryd.func34, Tryd.ntmps34
    go_wp2_with (first
      | ((with_reducible refine at_dst (N := 3) rfl ?_); go_must (refine ev_box (cs := #[.int .i64 3, .int .i64 n, .slice A asks.length c]) rfl rfl rfl ?_; intro g3 w1 hg3 hl3 hb3 hk3); have f0 := (blk_cell hb3 0).trans rfl; have f1 := (blk_cell hb3 1).trans rfl; have f2 := (blk_cell hb3 2).trans rfl; clear hb3; (try simp only [Act.put, List.setIfInBounds_toArray, List.set_cons_zero, List.set_cons_succ]))
      | (go_at_call 54; go_must (refine (within_any _ _ _ _).mono ?_; rintro e w' ⟨rfl, rfl⟩; rw [H1.out])))
    go_ret
    exact ⟨by rw [← hkr.out]; rfl, hk3⟩
set_option maxHeartbeats 2000000 in
theorem one_4 (n : Int) (asks : List Int) (A' : Option Addr) (many c' : Nat) (w : World) (X : Nat → Prop) (sv : Value) (hx : IntsX w X sv asks) :
    Calls Tryd.prog 34 #[.slice A' many c', .agg #[.int .i64 4, .int .i64 n, sv]] w fun e w' => e = .returned (.int .i64 (ruleErr many ⟨4, n, asks⟩)) ∧ Keeps Nob w w' := by
  obtain ⟨A, c, rfl, -, hcell⟩ := id hx
  obtain ⟨er, her⟩ : ∃ x, ruleErr many ⟨4, n, asks⟩ = x := ⟨_, rfl⟩
  rw [her]
  unfold ruleErr at her
  rw [if_neg (by show ¬ ((4 : Int) < 1 ∨ (7 : Int) ≤ 4); decide), show bnds 4 = (0, 12, 0, 0) from rfl] at her
  dsimp only at her
  have Hcell := Lib.hid hcell
  have Her := Lib.hid her
  clear hx hcell her
  by_cases h1 : (decide ((0 : Int) ≤ n) && decide (n ≤ (0 : Int))) = true
  · have her := Her.out
    rw [if_neg (by simp at h1; omega)] at her
    have H1 := Lib.hid h1
    clear h1
    by_cases h2 : 12 < (asks.length : Int)
    · rw [if_pos h2] at her
      have hkr := Lib.hid her
      clear Her her
      go_enter Tryd.func34, Tryd.ntmps34
      go_wp2_with (first
        | ((with_reducible refine at_dst (N := 3) rfl ?_); go_must (refine ev_box (cs := #[.int .i64 4, .int .i64 n, .slice A asks.length c]) rfl rfl rfl ?_; intro g3 w1 hg3 hl3 hb3 hk3); have f0 := (blk_cell hb3 0).trans rfl; have f1 := (blk_cell hb3 1).trans rfl; have f2 := (blk_cell hb3 2).trans rfl; clear hb3; (try simp only [Act.put, List.setIfInBounds_toArray, List.set_cons_zero, List.set_cons_succ]))
        | (go_at_call 54; go_must (refine (within_any _ _ _ _).mono ?_; rintro e w' ⟨rfl, rfl⟩; rw [H1.out])))
      go_ret
      exact ⟨by rw [← hkr.out]; rfl, hk3⟩
    rw [if_neg h2] at her
    by_cases h3 : (decide ((0 : Int) ≤ (asks.length : Int)) && decide ((asks.length : Int) ≤ (12 : Int))) = true
    · rw [if_neg (by rw [Bool.and_eq_true, decide_eq_true_eq, decide_eq_true_eq] at h3; omega)] at her
      have Her2 := Lib.hid her
      have H3 := Lib.hid h3
      clear her Her h3
      have hal : (asks.length : Int) ≤ 12 := by omega
      go_enter Tryd.func34, Tryd.ntmps34
      go_wp2_with (first
        | ((with_reducible refine at_dst (N := 3) rfl ?_); go_must (refine ev_box (cs := #[.int .i64 4, .int .i64 n, .slice A asks.length c]) rfl rfl rfl ?_; intro g3 w1 hg3 hl3 hb3 hk3); have f0 := (blk_cell hb3 0).trans rfl; have f1 := (blk_cell hb3 1).trans rfl; have f2 := (blk_cell hb3 2).trans rfl; clear hb3; (try simp only [Act.put, List.setIfInBounds_toArray, List.set_cons_zero, List.set_cons_succ]))
        | (go_at_call 54; go_must (refine (within_any _ _ _ _).mono ?_; rintro e w' ⟨rfl, rfl⟩; first | rw [H1.out] | rw [H3.out])))
      have HK := Lib.hid hk3
      clear hk3
      go_loopw [48] (fun v wr => ∃ k : Nat, v = .int .i64 k ∧ k ≤ asks.length ∧ wr = w1 ∧ Hid ((asks.drop k).any (askOut many) = asks.any (askOut many)))
        (fun v _ => asks.length - (intOf v).toNat)
      case atStart => exact ⟨0, rfl, Nat.zero_le _, rfl, Lib.hid rfl⟩
      case round =>
        obtain ⟨k, rfl, hk, rfl, hst⟩ := hrel
        by_cases hlt : k < asks.length
        · obtain ⟨b, o, rfl, _, hcw⟩ := Hcell.out k hlt
          have hcw := HK.out.cell hcw id
          have hstep : (asks.drop k).any (askOut many) = (askOut many (asks.getD k 0) || (asks.drop (k + 1)).any (askOut many)) := by
            rw [drop_getD hlt, List.any_cons]
          rw [hst.out] at hstep
          unfold askOut at hstep
          have Hstep := Lib.hid hstep
          clear hstep
          generalize asks.getD k 0 = q at *
          by_cases hq0 : q < 0
          · have hf := Lib.hid (show er = 5 by rw [← Her2.out, if_pos (by have := Hstep.out; simp [hq0] at this; unfold askOut; simpa using this)])
            go_wp2
            go_ret
            exact ⟨by rw [hf.out]; rfl, HK.out⟩
          by_cases hq1 : (many : Int) ≤ q
          · have hf := Lib.hid (show er = 5 by rw [← Her2.out, if_pos (by have := Hstep.out; simp [hq1] at this; unfold askOut; simpa using this)])
            go_wp2
            go_ret
            exact ⟨by rw [hf.out]; rfl, HK.out⟩
          have Hn := Lib.hid (show (asks.drop (k + 1)).any (askOut many) = asks.any (askOut many) by
            have h := Hstep.out
            rw [decide_eq_false hq0, decide_eq_false hq1, Bool.false_or, Bool.false_or] at h
            exact h.symm)
          go_wp2
          go_roundw
          case rel => exact ⟨k + 1, by go_num, by omega, by first | rfl | trivial, Hn⟩
          case measure => simp [intOf]; omega
        · have hk' : k = asks.length := by omega
          subst hk'
          have hf := Lib.hid (show er = 0 by
            rw [← Her2.out, if_neg]
            rw [← hst.out, List.drop_length]; simp)
          go_wp2
          go_ret
          exact ⟨by rw [hf.out]; rfl, HK.out⟩
    · rw [if_pos (by rw [Bool.and_eq_true, decide_eq_true_eq, decide_eq_true_eq] at h3; omega)] at her
      have h3' : (decide ((0 : Int) ≤ (asks.length : Int)) && decide ((asks.length : Int) ≤ (12 : Int))) = false := by simpa only [Bool.not_eq_true] using h3
      have hkr := Lib.hid her
      have H3 := Lib.hid h3'
      clear Her her h3 h3'
      go_enter Tryd.func34, Tryd.ntmps34
      go_wp2_with (first
        | ((with_reducible refine at_dst (N := 3) rfl ?_); go_must (refine ev_box (cs := #[.int .i64 4, .int .i64 n, .slice A asks.length c]) rfl rfl rfl ?_; intro g3 w1 hg3 hl3 hb3 hk3); have f0 := (blk_cell hb3 0).trans rfl; have f1 := (blk_cell hb3 1).trans rfl; have f2 := (blk_cell hb3 2).trans rfl; clear hb3; (try simp only [Act.put, List.setIfInBounds_toArray, List.set_cons_zero, List.set_cons_succ]))
        | (go_at_call 54; go_must (refine (within_any _ _ _ _).mono ?_; rintro e w' ⟨rfl, rfl⟩; first | rw [H1.out] | rw [H3.out])))
      go_ret
      exact ⟨by rw [← hkr.out]; rfl, hk3⟩
  · have h1' : (decide ((0 : Int) ≤ n) && decide (n ≤ (0 : Int))) = false := by simpa only [Bool.not_eq_true] using h1
    have her := Her.out
    rw [if_pos (by simp at h1; omega)] at her
    have hkr := Lib.hid her
    have H1 := Lib.hid h1'
    clear Her her h1 h1'
    go_enter Tryd.func34, Tryd.ntmps34
    go_wp2_with (first
      | ((with_reducible refine at_dst (N := 3) rfl ?_); go_must (refine ev_box (cs := #[.int .i64 4, .int .i64 n, .slice A asks.length c]) rfl rfl rfl ?_; intro g3 w1 hg3 hl3 hb3 hk3); have f0 := (blk_cell hb3 0).trans rfl; have f1 := (blk_cell hb3 1).trans rfl; have f2 := (blk_cell hb3 2).trans rfl; clear hb3; (try simp only [Act.put, List.setIfInBounds_toArray, List.set_cons_zero, List.set_cons_succ]))
      | (go_at_call 54; go_must (refine (within_any _ _ _ _).mono ?_; rintro e w' ⟨rfl, rfl⟩; rw [H1.out])))
    go_ret
    exact ⟨by rw [← hkr.out]; rfl, hk3⟩
set_option maxHeartbeats 2000000 in
theorem one_5 (n : Int) (asks : List Int) (A' : Option Addr) (many c' : Nat) (w : World) (X : Nat → Prop) (sv : Value) (hx : IntsX w X sv asks) :
    Calls Tryd.prog 34 #[.slice A' many c', .agg #[.int .i64 5, .int .i64 n, sv]] w fun e w' => e = .returned (.int .i64 (ruleErr many ⟨5, n, asks⟩)) ∧ Keeps Nob w w' := by
  obtain ⟨A, c, rfl, -, hcell⟩ := id hx
  obtain ⟨er, her⟩ : ∃ x, ruleErr many ⟨5, n, asks⟩ = x := ⟨_, rfl⟩
  rw [her]
  unfold ruleErr at her
  rw [if_neg (by show ¬ ((5 : Int) < 1 ∨ (7 : Int) ≤ 5); decide), show bnds 5 = (2, 2, 0, 0) from rfl] at her
  dsimp only at her
  have Hcell := Lib.hid hcell
  have Her := Lib.hid her
  clear hx hcell her
  by_cases h1 : (decide ((0 : Int) ≤ n) && decide (n ≤ (0 : Int))) = true
  · have her := Her.out
    rw [if_neg (by simp at h1; omega)] at her
    have H1 := Lib.hid h1
    clear h1
    by_cases h2 : 12 < (asks.length : Int)
    · rw [if_pos h2] at her
      have hkr := Lib.hid her
      clear Her her
      go_enter Tryd.func34, Tryd.ntmps34
      go_wp2_with (first
        | ((with_reducible refine at_dst (N := 3) rfl ?_); go_must (refine ev_box (cs := #[.int .i64 5, .int .i64 n, .slice A asks.length c]) rfl rfl rfl ?_; intro g3 w1 hg3 hl3 hb3 hk3); have f0 := (blk_cell hb3 0).trans rfl; have f1 := (blk_cell hb3 1).trans rfl; have f2 := (blk_cell hb3 2).trans rfl; clear hb3; (try simp only [Act.put, List.setIfInBounds_toArray, List.set_cons_zero, List.set_cons_succ]))
        | (go_at_call 54; go_must (refine (within_any _ _ _ _).mono ?_; rintro e w' ⟨rfl, rfl⟩; rw [H1.out])))
      go_ret
      exact ⟨by rw [← hkr.out]; rfl, hk3⟩
    rw [if_neg h2] at her
    by_cases h3 : (decide ((2 : Int) ≤ (asks.length : Int)) && decide ((asks.length : Int) ≤ (2 : Int))) = true
    · rw [if_neg (by rw [Bool.and_eq_true, decide_eq_true_eq, decide_eq_true_eq] at h3; omega)] at her
      have Her2 := Lib.hid her
      have H3 := Lib.hid h3
      clear her Her h3
      have hal : (asks.length : Int) ≤ 12 := by omega
      go_enter Tryd.func34, Tryd.ntmps34
      go_wp2_with (first
        | ((with_reducible refine at_dst (N := 3) rfl ?_); go_must (refine ev_box (cs := #[.int .i64 5, .int .i64 n, .slice A asks.length c]) rfl rfl rfl ?_; intro g3 w1 hg3 hl3 hb3 hk3); have f0 := (blk_cell hb3 0).trans rfl; have f1 := (blk_cell hb3 1).trans rfl; have f2 := (blk_cell hb3 2).trans rfl; clear hb3; (try simp only [Act.put, List.setIfInBounds_toArray, List.set_cons_zero, List.set_cons_succ]))
        | (go_at_call 54; go_must (refine (within_any _ _ _ _).mono ?_; rintro e w' ⟨rfl, rfl⟩; first | rw [H1.out] | rw [H3.out])))
      have HK := Lib.hid hk3
      clear hk3
      go_loopw [48] (fun v wr => ∃ k : Nat, v = .int .i64 k ∧ k ≤ asks.length ∧ wr = w1 ∧ Hid ((asks.drop k).any (askOut many) = asks.any (askOut many)))
        (fun v _ => asks.length - (intOf v).toNat)
      case atStart => exact ⟨0, rfl, Nat.zero_le _, rfl, Lib.hid rfl⟩
      case round =>
        obtain ⟨k, rfl, hk, rfl, hst⟩ := hrel
        by_cases hlt : k < asks.length
        · obtain ⟨b, o, rfl, _, hcw⟩ := Hcell.out k hlt
          have hcw := HK.out.cell hcw id
          have hstep : (asks.drop k).any (askOut many) = (askOut many (asks.getD k 0) || (asks.drop (k + 1)).any (askOut many)) := by
            rw [drop_getD hlt, List.any_cons]
          rw [hst.out] at hstep
          unfold askOut at hstep
          have Hstep := Lib.hid hstep
          clear hstep
          generalize asks.getD k 0 = q at *
          by_cases hq0 : q < 0
          · have hf := Lib.hid (show er = 5 by rw [← Her2.out, if_pos (by have := Hstep.out; simp [hq0] at this; unfold askOut; simpa using this)])
            go_wp2
            go_ret
            exact ⟨by rw [hf.out]; rfl, HK.out⟩
          by_cases hq1 : (many : Int) ≤ q
          · have hf := Lib.hid (show er = 5 by rw [← Her2.out, if_pos (by have := Hstep.out; simp [hq1] at this; unfold askOut; simpa using this)])
            go_wp2
            go_ret
            exact ⟨by rw [hf.out]; rfl, HK.out⟩
          have Hn := Lib.hid (show (asks.drop (k + 1)).any (askOut many) = asks.any (askOut many) by
            have h := Hstep.out
            rw [decide_eq_false hq0, decide_eq_false hq1, Bool.false_or, Bool.false_or] at h
            exact h.symm)
          go_wp2
          go_roundw
          case rel => exact ⟨k + 1, by go_num, by omega, by first | rfl | trivial, Hn⟩
          case measure => simp [intOf]; omega
        · have hk' : k = asks.length := by omega
          subst hk'
          have hf := Lib.hid (show er = 0 by
            rw [← Her2.out, if_neg]
            rw [← hst.out, List.drop_length]; simp)
          go_wp2
          go_ret
          exact ⟨by rw [hf.out]; rfl, HK.out⟩
    · rw [if_pos (by rw [Bool.and_eq_true, decide_eq_true_eq, decide_eq_true_eq] at h3; omega)] at her
      have h3' : (decide ((2 : Int) ≤ (asks.length : Int)) && decide ((asks.length : Int) ≤ (2 : Int))) = false := by simpa only [Bool.not_eq_true] using h3
      have hkr := Lib.hid her
      have H3 := Lib.hid h3'
      clear Her her h3 h3'
      go_enter Tryd.func34, Tryd.ntmps34
      go_wp2_with (first
        | ((with_reducible refine at_dst (N := 3) rfl ?_); go_must (refine ev_box (cs := #[.int .i64 5, .int .i64 n, .slice A asks.length c]) rfl rfl rfl ?_; intro g3 w1 hg3 hl3 hb3 hk3); have f0 := (blk_cell hb3 0).trans rfl; have f1 := (blk_cell hb3 1).trans rfl; have f2 := (blk_cell hb3 2).trans rfl; clear hb3; (try simp only [Act.put, List.setIfInBounds_toArray, List.set_cons_zero, List.set_cons_succ]))
        | (go_at_call 54; go_must (refine (within_any _ _ _ _).mono ?_; rintro e w' ⟨rfl, rfl⟩; first | rw [H1.out] | rw [H3.out])))
      go_ret
      exact ⟨by rw [← hkr.out]; rfl, hk3⟩
  · have h1' : (decide ((0 : Int) ≤ n) && decide (n ≤ (0 : Int))) = false := by simpa only [Bool.not_eq_true] using h1
    have her := Her.out
    rw [if_pos (by simp at h1; omega)] at her
    have hkr := Lib.hid her
    have H1 := Lib.hid h1'
    clear Her her h1 h1'
    go_enter Tryd.func34, Tryd.ntmps34
    go_wp2_with (first
      | ((with_reducible refine at_dst (N := 3) rfl ?_); go_must (refine ev_box (cs := #[.int .i64 5, .int .i64 n, .slice A asks.length c]) rfl rfl rfl ?_; intro g3 w1 hg3 hl3 hb3 hk3); have f0 := (blk_cell hb3 0).trans rfl; have f1 := (blk_cell hb3 1).trans rfl; have f2 := (blk_cell hb3 2).trans rfl; clear hb3; (try simp only [Act.put, List.setIfInBounds_toArray, List.set_cons_zero, List.set_cons_succ]))
      | (go_at_call 54; go_must (refine (within_any _ _ _ _).mono ?_; rintro e w' ⟨rfl, rfl⟩; rw [H1.out])))
    go_ret
    exact ⟨by rw [← hkr.out]; rfl, hk3⟩
set_option maxHeartbeats 2000000 in
theorem one_6 (n : Int) (asks : List Int) (A' : Option Addr) (many c' : Nat) (w : World) (X : Nat → Prop) (sv : Value) (hx : IntsX w X sv asks) :
    Calls Tryd.prog 34 #[.slice A' many c', .agg #[.int .i64 6, .int .i64 n, sv]] w fun e w' => e = .returned (.int .i64 (ruleErr many ⟨6, n, asks⟩)) ∧ Keeps Nob w w' := by
  obtain ⟨A, c, rfl, -, hcell⟩ := id hx
  obtain ⟨er, her⟩ : ∃ x, ruleErr many ⟨6, n, asks⟩ = x := ⟨_, rfl⟩
  rw [her]
  unfold ruleErr at her
  rw [if_neg (by show ¬ ((6 : Int) < 1 ∨ (7 : Int) ≤ 6); decide), show bnds 6 = (1, 1, (-1000), 1000) from rfl] at her
  dsimp only at her
  have Hcell := Lib.hid hcell
  have Her := Lib.hid her
  clear hx hcell her
  by_cases h1 : (decide (((-1000) : Int) ≤ n) && decide (n ≤ (1000 : Int))) = true
  · have her := Her.out
    rw [if_neg (by simp at h1; omega)] at her
    have H1 := Lib.hid h1
    clear h1
    by_cases h2 : 12 < (asks.length : Int)
    · rw [if_pos h2] at her
      have hkr := Lib.hid her
      clear Her her
      go_enter Tryd.func34, Tryd.ntmps34
      go_wp2_with (first
        | ((with_reducible refine at_dst (N := 3) rfl ?_); go_must (refine ev_box (cs := #[.int .i64 6, .int .i64 n, .slice A asks.length c]) rfl rfl rfl ?_; intro g3 w1 hg3 hl3 hb3 hk3); have f0 := (blk_cell hb3 0).trans rfl; have f1 := (blk_cell hb3 1).trans rfl; have f2 := (blk_cell hb3 2).trans rfl; clear hb3; (try simp only [Act.put, List.setIfInBounds_toArray, List.set_cons_zero, List.set_cons_succ]))
        | (go_at_call 54; go_must (refine (within_any _ _ _ _).mono ?_; rintro e w' ⟨rfl, rfl⟩; rw [H1.out])))
      go_ret
      exact ⟨by rw [← hkr.out]; rfl, hk3⟩
    rw [if_neg h2] at her
    by_cases h3 : (decide ((1 : Int) ≤ (asks.length : Int)) && decide ((asks.length : Int) ≤ (1 : Int))) = true
    · rw [if_neg (by rw [Bool.and_eq_true, decide_eq_true_eq, decide_eq_true_eq] at h3; omega)] at her
      have Her2 := Lib.hid her
      have H3 := Lib.hid h3
      clear her Her h3
      have hal : (asks.length : Int) ≤ 12 := by omega
      go_enter Tryd.func34, Tryd.ntmps34
      go_wp2_with (first
        | ((with_reducible refine at_dst (N := 3) rfl ?_); go_must (refine ev_box (cs := #[.int .i64 6, .int .i64 n, .slice A asks.length c]) rfl rfl rfl ?_; intro g3 w1 hg3 hl3 hb3 hk3); have f0 := (blk_cell hb3 0).trans rfl; have f1 := (blk_cell hb3 1).trans rfl; have f2 := (blk_cell hb3 2).trans rfl; clear hb3; (try simp only [Act.put, List.setIfInBounds_toArray, List.set_cons_zero, List.set_cons_succ]))
        | (go_at_call 54; go_must (refine (within_any _ _ _ _).mono ?_; rintro e w' ⟨rfl, rfl⟩; first | rw [H1.out] | rw [H3.out])))
      have HK := Lib.hid hk3
      clear hk3
      go_loopw [48] (fun v wr => ∃ k : Nat, v = .int .i64 k ∧ k ≤ asks.length ∧ wr = w1 ∧ Hid ((asks.drop k).any (askOut many) = asks.any (askOut many)))
        (fun v _ => asks.length - (intOf v).toNat)
      case atStart => exact ⟨0, rfl, Nat.zero_le _, rfl, Lib.hid rfl⟩
      case round =>
        obtain ⟨k, rfl, hk, rfl, hst⟩ := hrel
        by_cases hlt : k < asks.length
        · obtain ⟨b, o, rfl, _, hcw⟩ := Hcell.out k hlt
          have hcw := HK.out.cell hcw id
          have hstep : (asks.drop k).any (askOut many) = (askOut many (asks.getD k 0) || (asks.drop (k + 1)).any (askOut many)) := by
            rw [drop_getD hlt, List.any_cons]
          rw [hst.out] at hstep
          unfold askOut at hstep
          have Hstep := Lib.hid hstep
          clear hstep
          generalize asks.getD k 0 = q at *
          by_cases hq0 : q < 0
          · have hf := Lib.hid (show er = 5 by rw [← Her2.out, if_pos (by have := Hstep.out; simp [hq0] at this; unfold askOut; simpa using this)])
            go_wp2
            go_ret
            exact ⟨by rw [hf.out]; rfl, HK.out⟩
          by_cases hq1 : (many : Int) ≤ q
          · have hf := Lib.hid (show er = 5 by rw [← Her2.out, if_pos (by have := Hstep.out; simp [hq1] at this; unfold askOut; simpa using this)])
            go_wp2
            go_ret
            exact ⟨by rw [hf.out]; rfl, HK.out⟩
          have Hn := Lib.hid (show (asks.drop (k + 1)).any (askOut many) = asks.any (askOut many) by
            have h := Hstep.out
            rw [decide_eq_false hq0, decide_eq_false hq1, Bool.false_or, Bool.false_or] at h
            exact h.symm)
          go_wp2
          go_roundw
          case rel => exact ⟨k + 1, by go_num, by omega, by first | rfl | trivial, Hn⟩
          case measure => simp [intOf]; omega
        · have hk' : k = asks.length := by omega
          subst hk'
          have hf := Lib.hid (show er = 0 by
            rw [← Her2.out, if_neg]
            rw [← hst.out, List.drop_length]; simp)
          go_wp2
          go_ret
          exact ⟨by rw [hf.out]; rfl, HK.out⟩
    · rw [if_pos (by rw [Bool.and_eq_true, decide_eq_true_eq, decide_eq_true_eq] at h3; omega)] at her
      have h3' : (decide ((1 : Int) ≤ (asks.length : Int)) && decide ((asks.length : Int) ≤ (1 : Int))) = false := by simpa only [Bool.not_eq_true] using h3
      have hkr := Lib.hid her
      have H3 := Lib.hid h3'
      clear Her her h3 h3'
      go_enter Tryd.func34, Tryd.ntmps34
      go_wp2_with (first
        | ((with_reducible refine at_dst (N := 3) rfl ?_); go_must (refine ev_box (cs := #[.int .i64 6, .int .i64 n, .slice A asks.length c]) rfl rfl rfl ?_; intro g3 w1 hg3 hl3 hb3 hk3); have f0 := (blk_cell hb3 0).trans rfl; have f1 := (blk_cell hb3 1).trans rfl; have f2 := (blk_cell hb3 2).trans rfl; clear hb3; (try simp only [Act.put, List.setIfInBounds_toArray, List.set_cons_zero, List.set_cons_succ]))
        | (go_at_call 54; go_must (refine (within_any _ _ _ _).mono ?_; rintro e w' ⟨rfl, rfl⟩; first | rw [H1.out] | rw [H3.out])))
      go_ret
      exact ⟨by rw [← hkr.out]; rfl, hk3⟩
  · have h1' : (decide (((-1000) : Int) ≤ n) && decide (n ≤ (1000 : Int))) = false := by simpa only [Bool.not_eq_true] using h1
    have her := Her.out
    rw [if_pos (by simp at h1; omega)] at her
    have hkr := Lib.hid her
    have H1 := Lib.hid h1'
    clear Her her h1 h1'
    go_enter Tryd.func34, Tryd.ntmps34
    go_wp2_with (first
      | ((with_reducible refine at_dst (N := 3) rfl ?_); go_must (refine ev_box (cs := #[.int .i64 6, .int .i64 n, .slice A asks.length c]) rfl rfl rfl ?_; intro g3 w1 hg3 hl3 hb3 hk3); have f0 := (blk_cell hb3 0).trans rfl; have f1 := (blk_cell hb3 1).trans rfl; have f2 := (blk_cell hb3 2).trans rfl; clear hb3; (try simp only [Act.put, List.setIfInBounds_toArray, List.set_cons_zero, List.set_cons_succ]))
      | (go_at_call 54; go_must (refine (within_any _ _ _ _).mono ?_; rintro e w' ⟨rfl, rfl⟩; rw [H1.out])))
    go_ret
    exact ⟨by rw [← hkr.out]; rfl, hk3⟩
set_option maxHeartbeats 2000000 in
theorem one_bad (r : QRule) (A' : Option Addr) (many c' : Nat) (w : World) (X : Nat → Prop) (sv : Value) (hx : IntsX w X sv r.asks) (hb : r.kind < 1 ∨ 7 ≤ r.kind) :
    Calls Tryd.prog 34 #[.slice A' many c', .agg #[.int .i64 r.kind, .int .i64 r.n, sv]] w fun e w' => e = .returned (.int .i64 (ruleErr many r)) ∧ Keeps Nob w w' := by
  obtain ⟨kind, n, asks⟩ := r
  dsimp only at *
  obtain ⟨A, c, rfl, -, -⟩ := hx
  have hr : ruleErr many ⟨kind, n, asks⟩ = 2 := by unfold ruleErr; rw [if_pos hb]
  rw [hr]
  have e1 : (kind == 1) = false := by simp; omega
  have e2 : (kind == 2) = false := by simp; omega
  have e3 : (kind == 3) = false := by simp; omega
  have e4 : (kind == 4) = false := by simp; omega
  have e5 : (kind == 5) = false := by simp; omega
  have e6 : (kind == 6) = false := by simp; omega
  clear hb hr
  go_enter Tryd.func34, Tryd.ntmps34
  go_wp2_with ((with_reducible refine at_dst (N := 3) rfl ?_); go_must (refine ev_box (cs := #[.int .i64 kind, .int .i64 n, .slice A asks.length c]) rfl rfl rfl ?_; intro g3 w1 hg3 hl3 hb3 hk3); have f0 := (blk_cell hb3 0).trans rfl; have f1 := (blk_cell hb3 1).trans rfl; have f2 := (blk_cell hb3 2).trans rfl; clear hb3; (try simp only [Act.put, List.setIfInBounds_toArray, List.set_cons_zero, List.set_cons_succ]))
  go_ret
  exact ⟨rfl, hk3⟩
theorem one_any (r : QRule) (A' : Option Addr) (many c' : Nat) (w : World) (X : Nat → Prop) (sv : Value) (hx : IntsX w X sv r.asks) :
    Calls Tryd.prog 34 #[.slice A' many c', .agg #[.int .i64 r.kind, .int .i64 r.n, sv]] w fun e w' => e = .returned (.int .i64 (ruleErr many r)) ∧ Keeps Nob w w' := by
  by_cases hb : r.kind < 1 ∨ 7 ≤ r.kind
  · exact one_bad r A' many c' w X sv hx hb
  obtain ⟨kind, n, asks⟩ := r
  dsimp only at *
  have hk : kind = 1 ∨ kind = 2 ∨ kind = 3 ∨ kind = 4 ∨ kind = 5 ∨ kind = 6 := by omega
  rcases hk with rfl | rfl | rfl | rfl | rfl | rfl
  · exact one_1 n asks A' many c' w X sv hx
  · exact one_2 n asks A' many c' w X sv hx
  · exact one_3 n asks A' many c' w X sv hx
  · exact one_4 n asks A' many c' w X sv hx
  · exact one_5 n asks A' many c' w X sv hx
  · exact one_6 n asks A' many c' w X sv hx
end Go.Proofs.QW

/-
  The specification's Check, in memory: the model's 'check'. No condition.
-/
namespace Go.Proofs.QW
open Go.RowKit Go.Proofs.KL Go.Proofs.QM
set_option maxRecDepth 100000
set_option linter.unusedSimpArgs false
set_option linter.unusedVariables false

set_option maxHeartbeats 2000000 in
/-- The specification's CHECK. -/
theorem RefCheck_any (rs : List QRule) (w : World) (X : Nat → Prop) (rv : Value) (hr : RulesX w X rv rs) :
    Calls Tryd.prog 11 #[rv] w fun e w' => e = .returned (.tuple #[.int .i64 (check rs).1, .int .i64 (check rs).2]) ∧ Keeps Nob w w' := by
  obtain ⟨A, c, rfl, hcc, hcell⟩ := id hr
  obtain ⟨ce, hce⟩ : ∃ x, check rs = x := ⟨_, rfl⟩
  obtain ⟨c1, c2⟩ := ce
  rw [hce]
  unfold check at hce
  obtain ⟨i72, hi72, hs72⟩ := info72
  have Hi72 := Lib.hid (And.intro hi72 hs72)
  have Hr := Lib.hid hr
  have Hcell := Lib.hid hcell
  obtain ⟨rl, hrl⟩ : ∃ x, rs.length = x := ⟨_, rfl⟩
  rw [hrl] at hce ⊢
  have Hrl := Lib.hid hrl
  have Hce := Lib.hid hce
  clear hr hcell hce hrl hi72 hs72
  by_cases h2 : 200 < rl
  · have h2' : (200 : Int) < rl := by omega
    have hk := Hce.out
    rw [if_pos h2] at hk
    injection hk with hk1 hk2
    subst hk1; subst hk2
    clear Hce
    go_enter Tryd.func11, Tryd.ntmps11
    go_wp2
    go_ret2
    exact ⟨rfl, Keeps.refl _ _⟩
  have h2' : ¬ (200 : Int) < rl := by omega
  have hk := Hce.out
  rw [if_neg h2] at hk
  have Hk := Lib.hid hk
  clear hk Hce
  go_enter Tryd.func11, Tryd.ntmps11
  go_wp2
  go_loopw [12] (fun v wr => ∃ k : Nat, v = .int .i64 k ∧ k ≤ rl ∧ Hid (Keeps Nob w wr) ∧ Hid (checkFrom rl (rs.drop k) k = (c1, c2)))
    (fun v _ => rl - (intOf v).toNat)
  case atStart => exact ⟨0, rfl, Nat.zero_le _, Lib.hid (Keeps.refl _ _), Lib.hid Hk.out⟩
  case round =>
    obtain ⟨k, rfl, hk, hkeep, hst⟩ := hrel
    by_cases hlt : k < rl
    · obtain ⟨b, o, u, rfl, hb, e0, e1, e2, hu⟩ := Hcell.out k (by rw [Hrl.out]; exact hlt)
      have e0 := hkeep.out.cell e0 id
      have e1 := hkeep.out.cell e1 id
      have e2 := hkeep.out.cell e2 id
      have hstep : checkFrom rl (rs.drop k) k = if ruleErr rl (rs.getD k default) = 0 then checkFrom rl (rs.drop (k + 1)) ((k + 1 : Nat) : Int) else ((k : Int), ruleErr rl (rs.getD k default)) := by
        rw [drop_rule (by rw [Hrl.out]; exact hlt), checkFrom]; rfl
      rw [hst.out] at hstep
      have hu' := hu.keep (X' := X) hkeep.out (fun _ _ _ => id) (fun _ _ h => h)
      obtain ⟨uA, uc, rfl, _, _⟩ := id hu
      have Hu := Lib.hid hu'
      have Hstep := Lib.hid hstep
      clear hu hu' hstep hb
      generalize rs.getD k default = r at *
      obtain ⟨er, her⟩ : ∃ x, ruleErr rl r = x := ⟨_, rfl⟩
      have hs2 := Hstep.out
      rw [her] at hs2
      have Her := Lib.hid her
      have Hs2 := Lib.hid hs2
      clear hs2 her Hstep
      go_wp2_with (first
        | ((with_reducible refine at_dst (N := 5) rfl ?_); go_must (refine ev_alloc rfl rfl zero72 rfl ?_; intro g5 w1 hg5 hl5 hb5 hk1); have Hb5 := Lib.hid hb5; clear hb5; (try simp only [Act.put, List.setIfInBounds_toArray, List.set_cons_zero, List.set_cons_succ]))
        | ((with_reducible refine at_store (t := 72) rfl ?_); go_must (refine ev_store (cs' := #[.int .i64 r.kind, .int .i64 r.n, .slice uA r.asks.length uc]) rfl rfl rfl rfl rfl rfl Hi72.out.1 Hi72.out.2 rfl Hb5.out (Nat.le_of_ble_eq_true rfl) rfl ?_; intro w2 hb2 hk2); have f0 := (blk_cell hb2 0).trans rfl; have f1 := (blk_cell hb2 1).trans rfl; have f2 := (blk_cell hb2 2).trans rfl; clear hb2
           have hk2' := (hkeep.out.trans hk1 (fun _ _ h => h)).own hk2 (by have := hkeep.out.size; omega)
           have hk12 : Keeps Nob wr w2 := hk1.own hk2 hg5
           have Hrun := Lib.hid (one_any r (some ⟨b, o, none⟩) rl c w2 X (.slice uA r.asks.length uc) (Hu.out.keep hk12 (fun _ _ _ => id) (fun _ _ h => h)))
           have HK2 := Lib.hid hk2'
           clear hk2' hk12 hk1 hk2
           (try simp only [Act.put, List.setIfInBounds_toArray, List.set_cons_zero, List.set_cons_succ]))
        | (go_at_call 34; go_must (refine Hrun.out.mono ?_; rintro e w3 ⟨rfl, hk3⟩; rw [Her.out]); have HK3 := Lib.hid (HK2.out.trans hk3 (fun _ _ h => h)); clear hk3))
      · have hz : er ≠ 0 := by intro hz; simp_all
        have hs3 := Hs2.out
        rw [if_neg hz] at hs3
        injection hs3 with h1 h2
        go_ret2
        exact ⟨by rw [h1, h2]; rfl, HK3.out⟩
      · have hz : er = 0 := by simp_all
        have hs3 := Hs2.out
        rw [if_pos hz] at hs3
        exact ⟨⟨k + 1, by go_num, by omega, HK3, Lib.hid hs3.symm⟩, by simp [intOf]; omega⟩
    · have hk' : k = rl := by omega
      subst hk'
      have hs := hst.out
      rw [← Hrl.out, List.drop_length] at hs
      injection hs with h1 h2
      subst h1; subst h2
      go_wp2
      go_ret2
      exact ⟨rfl, hkeep.out⟩
end Go.Proofs.QW

/-
  The laws' own small functions (same, example), in memory. No condition.
-/
namespace Go.Proofs.QW
open Go.RowKit Go.Proofs.KL Go.Proofs.QM
set_option maxRecDepth 100000
set_option linter.unusedSimpArgs false
set_option linter.unusedVariables false

theorem take_eq_of {xs ys : List Int} {k : Nat} (hx : k < xs.length) (hy : k < ys.length) (h : xs.take k = ys.take k) (e : xs.getD k 0 = ys.getD k 0) : xs.take (k + 1) = ys.take (k + 1) := by
  rw [← take_snoc hx, ← take_snoc hy, h, e]
set_option maxHeartbeats 2000000 in
/-- same. -/
theorem same_any (xs ys : List Int) (w : World) (X X' : Nat → Prop) (av bv : Value) (hx : IntsX w X av xs) (hy : IntsX w X' bv ys) (hxl : xs.length ≤ 1000000) :
    Calls Tryd.prog 32 #[av, bv] w fun e w' => e = .returned (.bool (decide (xs = ys))) ∧ Keeps Nob w w' := by
  obtain ⟨A, c, rfl, -, hxc⟩ := id hx
  obtain ⟨B, d, rfl, -, hyc⟩ := id hy
  have Hx := Lib.hid hx
  have Hy := Lib.hid hy
  have Hxc := Lib.hid hxc
  have Hyc := Lib.hid hyc
  clear hx hy hxc hyc
  obtain ⟨t, ht⟩ : ∃ t, decide (xs = ys) = t := ⟨_, rfl⟩
  rw [ht]
  have Ht := Lib.hid ht
  clear ht
  by_cases hl : xs.length = ys.length
  · have Hl := Lib.hid hl
    have hlb : ((xs.length : Int) != (ys.length : Int)) = false := by simp [hl]
    clear hl
    go_enter Tryd.func32, Tryd.ntmps32
    go_wp2
    go_loopw [13] (fun v wr => ∃ k : Nat, v = .int .i64 k ∧ k ≤ xs.length ∧ Hid (Keeps Nob w wr) ∧ Hid (xs.take k = ys.take k))
      (fun v _ => xs.length - (intOf v).toNat)
    case atStart => exact ⟨0, rfl, Nat.zero_le _, Lib.hid (Keeps.refl _ _), Lib.hid (by simp)⟩
    case round =>
      obtain ⟨k, rfl, hk, hkeep, hst⟩ := hrel
      by_cases hlt : k < xs.length
      · have hlt2 : k < ys.length := by have := Hl.out; omega
        obtain ⟨b, o, rfl, _, e0⟩ := Hxc.out k hlt
        obtain ⟨b2, o2, rfl, _, e1⟩ := Hyc.out k hlt2
        have e0 := hkeep.out.cell e0 id
        have e1 := hkeep.out.cell e1 id
        have Hn := Lib.hid (fun e => take_eq_of hlt hlt2 hst.out e)
        have Hne : Hid (xs.getD k 0 ≠ ys.getD k 0 → xs ≠ ys) := Lib.hid (fun h e => h (by rw [e]))
        generalize xs.getD k 0 = x at *
        generalize ys.getD k 0 = y at *
        have hi : (k : Int) < ys.length := by omega
        go_wp2
        refine wp_region_perm [(0, true), (1, true), (2, true), (3, true), (4, true), (5, true), (6, true), (7, true), (8, true)] (fun w' => w'.cell? ⟨b, o + k, none⟩ = some (.int .i64 x) ∧ w'.cell? ⟨b2, o2 + k, none⟩ = some (.int .i64 y)) rfl (by kernel_rfl) (by kernel_rfl) (by decide) (fun c a d v w h => by cases d <;> exact h) ⟨e0, e1⟩ ?_
        refine perm_q (v := ?v1_0) (some 16) rfl rfl rfl ?q1_0 ?h1_0; (case q1_0 => (intro w' hS; obtain ⟨s1, s2⟩ := hS; first | (go_simp; done) | (go_simp; rfl))); (try simp only [Act.put, List.setIfInBounds_toArray, List.set_cons_zero, List.set_cons_succ])
        refine perm_q (v := ?v1_1) (some 17) rfl rfl rfl ?q1_1 ?h1_1; (case q1_1 => (intro w' hS; obtain ⟨s1, s2⟩ := hS; first | (go_simp; done) | (go_simp; rfl))); (try simp only [Act.put, List.setIfInBounds_toArray, List.set_cons_zero, List.set_cons_succ])
        refine perm_q (v := ?v1_2) (some 18) rfl rfl rfl ?q1_2 ?h1_2; (case q1_2 => (intro w' hS; obtain ⟨s1, s2⟩ := hS; first | (go_simp; done) | (go_simp; rfl))); (try simp only [Act.put, List.setIfInBounds_toArray, List.set_cons_zero, List.set_cons_succ])
        refine perm_q (v := ?v1_3) (some 19) rfl rfl rfl ?q1_3 ?h1_3; (case q1_3 => (intro w' hS; obtain ⟨s1, s2⟩ := hS; first | (go_simp; done) | (go_simp; rfl))); (try simp only [Act.put, List.setIfInBounds_toArray, List.set_cons_zero, List.set_cons_succ])
        refine perm_q (v := ?v1_4) (some 20) rfl rfl rfl ?q1_4 ?h1_4; (case q1_4 => (intro w' hS; obtain ⟨s1, s2⟩ := hS; first | (go_simp; done) | (go_simp; rfl))); (try simp only [Act.put, List.setIfInBounds_toArray, List.set_cons_zero, List.set_cons_succ])
        refine perm_q (v := ?v1_5) (some 21) rfl rfl rfl ?q1_5 ?h1_5; (case q1_5 => (intro w' hS; obtain ⟨s1, s2⟩ := hS; first | (go_simp; done) | (go_simp; rfl))); (try simp only [Act.put, List.setIfInBounds_toArray, List.set_cons_zero, List.set_cons_succ])
        refine perm_q (v := ?v1_6) (some 22) rfl rfl rfl ?q1_6 ?h1_6; (case q1_6 => (intro w' hS; obtain ⟨s1, s2⟩ := hS; first | (go_simp; done) | (go_simp; rfl))); (try simp only [Act.put, List.setIfInBounds_toArray, List.set_cons_zero, List.set_cons_succ])
        refine perm_q (v := ?v1_7) (some 23) rfl rfl rfl ?q1_7 ?h1_7; (case q1_7 => (intro w' hS; obtain ⟨s1, s2⟩ := hS; first | (go_simp; done) | (go_simp; rfl))); (try simp only [Act.put, List.setIfInBounds_toArray, List.set_cons_zero, List.set_cons_succ])
        refine perm_q (v := ?v1_8) (some 24) rfl rfl rfl ?q1_8 ?h1_8; (case q1_8 => (intro w' hS; obtain ⟨s1, s2⟩ := hS; first | (go_simp; done) | (go_simp; rfl))); (try simp only [Act.put, List.setIfInBounds_toArray, List.set_cons_zero, List.set_cons_succ])
        refine perm_nil ?_
        by_cases hxy : x = y
        · have hb : (x != y) = false := by simp [hxy]
          have H2 := Lib.hid (Hn.out hxy)
          clear hxy
          go_wp2
          go_roundw
          case rel => exact ⟨k + 1, by go_num, by omega, Lib.hid hkeep.out.drew, H2⟩
          case measure => simp [intOf]; omega
        · have hb : (x != y) = true := by simpa using hxy
          have hf : t = false := by rw [← Ht.out]; exact decide_eq_false (Hne.out hxy)
          clear hxy
          go_wp2
          go_ret
          exact ⟨by rw [hf]; rfl, hkeep.out.drew⟩
      · have hk' : k = xs.length := by omega
        subst hk'
        have hf : t = true := by
          rw [← Ht.out]
          have := hst.out
          rw [List.take_length, Hl.out, List.take_length] at this
          exact decide_eq_true this
        go_wp2
        go_ret
        exact ⟨by rw [hf]; rfl, hkeep.out⟩
  · have hlb : ((xs.length : Int) != (ys.length : Int)) = true := by simp; omega
    have hf : t = false := by rw [← Ht.out]; exact decide_eq_false (fun e => hl (by rw [e]))
    clear hl
    go_enter Tryd.func32, Tryd.ntmps32
    go_wp2
    go_ret
    exact ⟨by rw [hf]; rfl, Keeps.refl _ _⟩
def exampleR : List QRule := [⟨1, 0, []⟩, ⟨1, 0, []⟩, ⟨2, 10, [0, 1]⟩, ⟨6, 1, [2]⟩]
set_option maxHeartbeats 2000000 in
/-- example. -/
theorem example_any (w : World) : Calls Tryd.prog 36 #[] w fun e w' => ∃ v, e = .returned v ∧ Keeps Nob w w' ∧ RulesX w' (fun k => w.heap.size ≤ k ∧ k < w'.heap.size) v exampleR := by
  go_enter Tryd.func36, Tryd.ntmps36
  go_wp2_with (first
    | ((with_reducible refine at_dst (N := 3) rfl ?_); go_must (refine ev_slice (cs := #[.int .i64 0, .int .i64 1]) (t := 3) (n := 2) (c := 2) rfl (by first | (go_simp; done) | (go_simp; rfl)) ?_; intro g1 w1 hg1 hl1 hb1 hk1); have Hb1 := Lib.hid hb1; clear hb1; (try simp only [Act.put, List.setIfInBounds_toArray, List.set_cons_zero, List.set_cons_succ]))
    | ((with_reducible refine at_dst (N := 5) rfl ?_); go_must (refine ev_slice (cs := #[.int .i64 2]) (t := 3) (n := 1) (c := 1) rfl (by first | (go_simp; done) | (go_simp; rfl)) ?_; intro g2 w2 hg2 hl2 hb2 hk2); have Hb2 := Lib.hid hb2; clear hb2; (try simp only [Act.put, List.setIfInBounds_toArray, List.set_cons_zero, List.set_cons_succ]))
    | ((with_reducible refine at_dst (N := 7) rfl ?_); go_must (refine ev_slice (cs := #[.int .i64 1, .int .i64 0, .slice none 0 0, .int .i64 1, .int .i64 0, .slice none 0 0, .int .i64 2, .int .i64 10, .slice (some ⟨g1, 0, none⟩) 2 2, .int .i64 6, .int .i64 1, .slice (some ⟨g2, 0, none⟩) 1 1]) (t := 72) (n := 4) (c := 4) rfl (by first | (go_simp; done) | (go_simp; rfl)) ?_; intro g3 w3 hg3 hl3 hb3 hk3); have Hb3 := Lib.hid hb3; clear hb3; (try simp only [Act.put, List.setIfInBounds_toArray, List.set_cons_zero, List.set_cons_succ])))
  go_ret
  have z1 := hk1.size
  have z2 := hk2.size
  have z3 := hk3.size
  have b1 := hk3.blk (hk2.blk Hb1.out id) id
  have b2 := hk3.blk Hb2.out id
  refine ⟨_, rfl, (hk1.trans hk2 (fun _ _ h => h)).trans hk3 (fun _ _ h => h), ?_⟩
  refine ⟨some ⟨g3, 0, none⟩, 4, rfl, by decide, fun i hi => ?_⟩
  have hi : i < 4 := hi
  have c := blk_cell Hb3.out
  have hX : w.heap.size ≤ g3 ∧ g3 < w3.heap.size := ⟨by omega, hl3⟩
  match i, hi with
  | 0, _ => exact ⟨g3, 0, _, rfl, hX, (c _).trans rfl, (c _).trans rfl, (c _).trans rfl, nil_ints _ _⟩
  | 1, _ => exact ⟨g3, 0, _, rfl, hX, (c _).trans rfl, (c _).trans rfl, (c _).trans rfl, nil_ints _ _⟩
  | 2, _ =>
    refine ⟨g3, 0, _, rfl, hX, (c _).trans rfl, (c _).trans rfl, (c _).trans rfl, some ⟨g1, 0, none⟩, 2, rfl, Nat.le_refl _, fun j hj => ⟨g1, 0, rfl, ⟨by omega, by omega⟩, ?_⟩⟩
    have hj : j < 2 := hj
    match j, hj with
    | 0, _ => exact (blk_cell b1 _).trans rfl
    | 1, _ => exact (blk_cell b1 _).trans rfl
  | 3, _ =>
    refine ⟨g3, 0, _, rfl, hX, (c _).trans rfl, (c _).trans rfl, (c _).trans rfl, some ⟨g2, 0, none⟩, 1, rfl, Nat.le_refl _, fun j hj => ⟨g2, 0, rfl, ⟨by omega, by omega⟩, ?_⟩⟩
    have hj : j < 1 := hj
    match j, hj with
    | 0, _ => exact (blk_cell b2 _).trans rfl
end Go.Proofs.QW

/-
  The closed example (alive), in memory: true. Condition: the table of kinds lies as it is laid.
-/
namespace Go.Proofs.QW
open Go.RowKit Go.Proofs.KL Go.Proofs.QM
set_option maxRecDepth 100000
set_option linter.unusedSimpArgs false
set_option linter.unusedVariables false

def exE (a b ca cb rev : Int) : Env := ⟨exampleR, [a, b, 0, 0], [ca, cb, 0, 0], rev, 9⟩
theorem example_check : check exampleR = (0, 0) := by decide
theorem exE_ok {a b ca cb rev : Int} (ha : 0 ≤ a ∧ a ≤ 1048576) (hb : 0 ≤ b ∧ b ≤ 1048576) (hr : 0 ≤ rev ∧ rev ≤ 1000) : EnvOk (exE a b ca cb rev) := by
  obtain ⟨h200, hrok⟩ := check_ok (rs := exampleR) (by rw [example_check])
  refine ⟨h200, hrok, rfl, rfl, fun q h0 h1 _ => ?_, hr.1, by have := hr.2; show rev ≤ _; omega, by show (0 : Int) ≤ 9; omega, by show (9 : Int) ≤ _; omega⟩
  have h1' : q < 4 := h1
  obtain ⟨i, rfl⟩ := Int.eq_ofNat_of_zero_le h0
  have hi : i < 4 := by omega
  match i, hi with
  | 0, _ => exact ha
  | 1, _ => exact hb
  | 2, _ => exact ⟨Int.le_refl 0, by show (0 : Int) ≤ 1048576; omega⟩
  | 3, _ => exact ⟨Int.le_refl 0, by show (0 : Int) ≤ 1048576; omega⟩
def ans1 : List (Option KeptR) := [none, none, some ⟨4, [0, 1], 1, 1⟩, some ⟨5, [2], 1, 1⟩]
def ans2 : List (Option KeptR) := [none, none, some ⟨4, [0, 1], 2, 1⟩, some ⟨5, [2], 2, 1⟩]
theorem ex_set1 : setF (exE 0 0 0 0 0) 0 4 = (exE 4 0 1 0 1, 0) := by rfl
theorem ex_set2 : setF (exE 4 0 1 0 1) 1 10 = (exE 4 10 1 2 2, 0) := by rfl
theorem ex_ask1 : askF (exE 4 0 1 0 1) (exampleR.length + 1) [] ⟨List.replicate exampleR.length none, []⟩ 3 = (⟨ans1, [2, 3]⟩, .ok (5, 1)) := by rfl
theorem ex_ask2 : askF (exE 4 10 1 2 2) (exampleR.length + 1) [] ⟨ans1, []⟩ 3 = (⟨ans2, [2]⟩, .ok (5, 1)) := by rfl
theorem ex_plain : plainF exampleR [4, 10, 0, 0] 3 = (5, 0) := by rfl
theorem PInv.again {E E' : Env} {on : List Int} {s : PS} (h : PInv E on s) (hr : E'.rules = E.rules) (hm : 0 ≤ E'.most) : PInv E' [] ⟨s.ans, []⟩ := by
  have hq : ∀ q, InQ E' q ↔ InQ E q := fun q => by unfold InQ; rw [hr]
  exact ⟨by rw [hr]; exact h.alen, fun q k h1 h2 => (fun hk => ⟨hk.v0, hk.v1, fun a ha => (hq a).2 (hk.asked a ha), hk.alen⟩) (h.kok q k ((hq q).1 h1) h2), List.nodup_nil, fun q h => (by cases h), hm, fun q h => (by cases h), List.nodup_nil, fun q h => (by cases h)⟩
set_option maxHeartbeats 4000000 in
/-- ALIVE. -/
theorem alive_any (w : World) (ht : Tab w) : Calls Tryd.prog 14 #[] w fun e w' => e = .returned (.bool true) ∧ Keeps Nob w w' := by
  have l0 : 0 < w.heap.size := World.block_lt_of_cell? _ _ (ht 1 (by omega) (by omega)).1
  have HT := Lib.hid ht
  have hpn : ∀ (n : Nat) (w : World), (binOp .eql 35 (.pointer (some ⟨n, 0, none⟩)) (.pointer none)).run Tryd.prog w = .ok (.bool false) w := fun _ _ => by kernel_rfl
  clear ht
  go_enter Tryd.func14, Tryd.ntmps14
  go_wp2_with (first
    | (go_at_call 36; go_must (refine (example_any w).mono ?_; rintro e w1 ⟨rv, rfl, hk1, hr1⟩))
    | (go_at_call 23; go_must (refine (New_any exampleR w1 _ rv hr1 (fun _ => HT.out.keep hk1 id)).mono ?_; rintro e w2 ⟨hk2, -, hok⟩; obtain ⟨eb, ib, mb, Y, rfl, heng, hY, neb, nib, nmb⟩ := hok (by rw [example_check])); clear hok))
  have z1 := hk1.size
  have HK2 := Lib.hid (hk1.trans hk2 (fun _ _ h => h))
  have HY := Lib.hid hY
  have hl : eb < w2.heap.size ∧ ib < w2.heap.size ∧ mb < w2.heap.size := by
    obtain ⟨⟨_, _, h1, _⟩, ⟨_, h2, _⟩, ⟨_, _, h3, _⟩, _, _, _⟩ := heng 9
    exact ⟨blk_lt h1, blk_lt h2, blk_lt h3⟩
  obtain ⟨leb, lib, lmb⟩ := hl
  have hset := Lib.hid (Set_any (exE_ok (a := 0) (b := 0) (ca := 0) (cb := 0) (rev := 0) (by omega) (by omega) (by omega)) w2 Y eb ib mb _ 0 4 (heng 9))
  rw [ex_set1] at hset
  clear heng hY hr1 hk1 hk2
  go_wp2_with (go_at_call 29; go_must (refine hset.out.mono ?_; rintro e w3 ⟨rfl, hk3, he3⟩))
  have z2 := HK2.out.size
  have z3 := hk3.size
  have hE3 := exE_ok (a := 4) (b := 0) (ca := 1) (cb := 0) (rev := 1) (by omega) (by omega) (by omega)
  have hpi := PInv.fresh exampleR [4, 0, 0, 0] 9 (by omega)
  have hpi3 : PInv (exE 4 0 1 0 1) [] ⟨List.replicate exampleR.length none, []⟩ := PInv.again hpi rfl (by show (0 : Int) ≤ 9; omega)
  have hq3 : InQ (exE 4 0 1 0 1) 3 := ⟨by omega, by show (3 : Int) < 4; omega⟩
  have hgood := (askF_good hE3 (exampleR.length + 1) [] _ 3 hpi3 hq3).1
  have hask := Ask_any hE3 w3 Y eb ib mb _ 3 he3 (fun k hk => by have := HY.out k hk; omega) hpi3 hq3
  have hrule : (exE 4 0 1 0 1).rules.length = exampleR.length := rfl
  rw [hrule, ex_ask1] at hask
  rw [ex_ask1] at hgood
  clear hrule
  have hask : Hid (Calls Tryd.prog 18 #[.pointer (some ⟨eb, 0, none⟩), .int .i64 3, .int .i64 9] w3 (AskEnd w3 Y eb ib mb (exE 4 0 1 0 1) (⟨ans1, [2, 3]⟩, .ok (5, 1)))) := Lib.hid hask
  have HGood := Lib.hid hgood.inv
  have HK3 := Lib.hid (HK2.out.trans hk3 (fun i hi e => by rcases e with rfl | rfl <;> omega))
  clear hset hE3 hpi hpi3 hq3 hgood he3 hk3
  go_wp2_with (go_at_call 18; go_must (refine hask.out.mono ?_; rintro e w4 ⟨X4, wl, rfl, hx4, hxl4, hk4, he4, hown4, hfar4⟩; dsimp only at he4 hown4; obtain ⟨lA, lc, rfl⟩ := own_slice hown4))
  have z4 := hk4.size
  have Hown4 := Lib.hid hown4
  have Hfar4 := Lib.hid hfar4
  have Hxl4 := Lib.hid hxl4
  have HK4 := Lib.hid (HK3.out.trans hk4 (fun i hi e => by omega))
  have hset := Lib.hid (Set_any (exE_ok (a := 4) (b := 0) (ca := 1) (cb := 0) (rev := 1) (by omega) (by omega) (by omega)) w4 X4 eb ib mb _ 1 10 he4)
  rw [ex_set2] at hset
  clear hask he4 hk4 hx4 hxl4 hown4 hfar4
  go_wp2_with (go_at_call 29; go_must (refine hset.out.mono ?_; rintro e w5 ⟨rfl, hk5, he5⟩))
  have z5 := hk5.size
  have Hown5 := Lib.hid (ownsRow_keep Hown4.out hk5 (fun b hb e => by have := (Hfar4.out b hb).1; rcases e with rfl | rfl <;> omega))
  have HK5 := Lib.hid (HK4.out.trans hk5 (fun i hi e => by rcases e with rfl | rfl <;> omega))
  have hE5 := exE_ok (a := 4) (b := 10) (ca := 1) (cb := 2) (rev := 2) (by omega) (by omega) (by omega)
  have hpi5 : PInv (exE 4 10 1 2 2) [] ⟨ans1, []⟩ := PInv.again HGood.out rfl (by show (0 : Int) ≤ 9; omega)
  have hq5 : InQ (exE 4 10 1 2 2) 3 := ⟨by omega, by show (3 : Int) < 4; omega⟩
  have hask := Ask_any hE5 w5 X4 eb ib mb _ 3 he5 (fun k hk => by have := Hxl4.out k hk; omega) hpi5 hq5
  have hrule : (exE 4 10 1 2 2).rules.length = exampleR.length := rfl
  rw [hrule, ex_ask2] at hask
  have hask : Hid (Calls Tryd.prog 18 #[.pointer (some ⟨eb, 0, none⟩), .int .i64 3, .int .i64 9] w5 (AskEnd w5 X4 eb ib mb (exE 4 10 1 2 2) (⟨ans2, [2]⟩, .ok (5, 1)))) := Lib.hid hask
  clear hset hE5 hpi5 hq5 he5 hk5 hrule HGood
  go_wp2_with (go_at_call 18; go_must (refine hask.out.mono ?_; rintro e w6 ⟨X6, wl6, rfl, hx6, hxl6, hk6, he6, hown6, hfar6⟩; dsimp only at he6 hown6; obtain ⟨mA, mc, rfl⟩ := own_slice hown6))
  have z6 := hk6.size
  have Hown6 := Lib.hid hown6
  have He6 := Lib.hid he6
  have HK6 := Lib.hid (HK5.out.trans hk6 (fun i hi e => by omega))
  have Hl6 := Lib.hid (IntsX.own (xs := [2, 3]) (ownsRow_keep Hown5.out hk6 (fun b hb e => by have := (Hfar4.out b hb).1; omega)) (fun _ => True) (fun _ _ => trivial))
  have Hm6 := Lib.hid (IntsX.own (xs := [2]) Hown6.out (fun _ => True) (fun _ _ => trivial))
  clear hask he6 hk6 hx6 hxl6 hown6 hfar6
  go_wp2_with (first
    | (go_at_call 36; go_must (refine (example_any w6).mono ?_; rintro e w7 ⟨rv7, rfl, hk7, hr7⟩))
    | ((with_reducible refine at_dst (N := 44) rfl ?_); go_must (refine ev_slice (cs := #[.int .i64 4, .int .i64 10, .int .i64 0, .int .i64 0]) (t := 3) (n := 4) (c := 4) rfl (by first | (go_simp; done) | (go_simp; rfl)) ?_; intro g8 w8 hg8 hl8 hb8 hk8); have Hb8 := Lib.hid hb8; clear hb8; (try simp only [Act.put, List.setIfInBounds_toArray, List.set_cons_zero, List.set_cons_succ])))
  have HK8 := Lib.hid ((HK6.out.trans hk7 (fun _ _ h => h)).trans hk8 (fun _ _ h => h))
  have hk68 : Keeps Nob w6 w8 := hk7.trans hk8 (fun _ _ h => h)
  have hp := Plain_any exampleR [4, 10, 0, 0] 3 w8 _ (fun _ => True) rv7 (.slice (some ⟨g8, 0, none⟩) 4 4) (hr7.keep (X' := fun _ => True) hk8 (fun _ _ _ => id) (fun _ _ _ => trivial)) (IntsX.own (xs := [4, 10, 0, 0]) ⟨rfl, .inr ⟨g8, 4, _, rfl, Nat.zero_le _, Hb8.out, Nat.le_refl _, by unfold maxLen; omega, rfl, rfl⟩⟩ (fun _ => True) (fun _ _ => trivial)) (fun _ => HT.out.keep HK8.out id)
  rw [ex_plain] at hp
  have Hp := Lib.hid hp
  have He8 := Lib.hid (He6.out.keep hk68 id id id (fun _ _ _ => id) (fun _ _ => Iff.rfl))
  have Hl8 := Lib.hid (Hl6.out.keep (X' := fun _ => True) hk68 (fun _ _ _ => id) (fun _ _ h => h))
  have Hm8 := Lib.hid (Hm6.out.keep (X' := fun _ => True) hk68 (fun _ _ _ => id) (fun _ _ h => h))
  clear hp hk68 hk7 hk8 hr7
  go_wp2_with (go_at_call 15; go_must (refine Hp.out.mono ?_; rintro e w9 ⟨rfl, hk9⟩))
  have HK9 := Lib.hid (HK8.out.trans hk9 (fun _ _ h => h))
  have he9 := He8.out.keep hk9 id id id (fun _ _ _ => id) (fun _ _ => Iff.rfl)
  have hkept := Kept_any X6 eb ib mb _ _ 3 w9 he9 (by show 4 ≤ 200; omega)
  have hkv : keptVal (exE 4 10 1 2 2) ans2 3 = (5, true) := by rfl
  rw [hkv] at hkept
  have Hkept := Lib.hid hkept
  have Hl9 := Lib.hid (Hl8.out.keep (X' := fun _ => True) hk9 (fun _ _ _ => id) (fun _ _ h => h))
  have Hm9 := Lib.hid (Hm8.out.keep (X' := fun _ => True) hk9 (fun _ _ _ => id) (fun _ _ h => h))
  have He9 := Lib.hid he9
  clear he9 hkept hkv hk9
  go_wp2_with (go_at_call 19; go_must (refine Hkept.out.mono ?_; rintro e w10 ⟨rfl, hk10⟩); dsimp only)
  have HK10 := Lib.hid ((HK9.out.trans hk10 (fun _ _ h => h)).alloc (.cells #[.int .i64 2, .int .i64 3] 3 (0, 0)))
  have hka : Keeps Nob w9 (w10.alloc (.cells #[.int .i64 2, .int .i64 3] 3 (0, 0))) := hk10.alloc _
  have s1 := same_any [2, 3] [2, 3] (w10.alloc (.cells #[.int .i64 2, .int .i64 3] 3 (0, 0))) (fun _ => True) (fun _ => True) (.slice lA 2 lc) (.slice (some ⟨w10.heap.size, 0, none⟩) 2 2) (Hl9.out.keep (X' := fun _ => True) hka (fun _ _ _ => id) (fun _ _ h => h)) (IntsX.own (xs := [2, 3]) ⟨rfl, .inr ⟨w10.heap.size, 2, _, rfl, Nat.zero_le _, blk_new w10 _, Nat.le_refl _, by unfold maxLen; omega, rfl, rfl⟩⟩ (fun _ => True) (fun _ _ => trivial)) (by decide)
  rw [show decide (([2, 3] : List Int) = [2, 3]) = true from rfl] at s1
  have S1 := Lib.hid s1
  have Hm10 := Lib.hid (Hm9.out.keep (X' := fun _ => True) hka (fun _ _ _ => id) (fun _ _ h => h))
  have He10 := Lib.hid (He9.out.keep hka id id id (fun _ _ _ => id) (fun _ _ => Iff.rfl))
  clear s1 hka hk10
  refine S1.out.mono ?_
  rintro e w11 ⟨rfl, hk11⟩
  go_wp2_with fail
  have HK11 := Lib.hid ((HK10.out.trans hk11 (fun _ _ h => h)).alloc (.cells #[.int .i64 2] 3 (0, 0)))
  have hkb := hk11.alloc (.cells #[.int .i64 2] 3 (0, 0))
  have s2 := same_any [2] [2] (w11.alloc (.cells #[.int .i64 2] 3 (0, 0))) (fun _ => True) (fun _ => True) (.slice mA 1 mc) (.slice (some ⟨w11.heap.size, 0, none⟩) 1 1) (Hm10.out.keep (X' := fun _ => True) hkb (fun _ _ _ => id) (fun _ _ h => h)) (IntsX.own (xs := [2]) ⟨rfl, .inr ⟨w11.heap.size, 1, _, rfl, Nat.zero_le _, blk_new w11 _, Nat.le_refl _, by unfold maxLen; omega, rfl, rfl⟩⟩ (fun _ => True) (fun _ _ => trivial)) (by decide)
  rw [show decide (([2] : List Int) = [2]) = true from rfl] at s2
  have S2 := Lib.hid s2
  have He11 := Lib.hid (He10.out.keep hkb id id id (fun _ _ _ => id) (fun _ _ => Iff.rfl))
  clear s2 hkb hk11
  refine S2.out.mono ?_
  rintro e w12 ⟨rfl, hk12⟩
  have HK12 := Lib.hid (HK11.out.trans hk12 (fun _ _ h => h))
  have Hrv := Lib.hid (Revision_any (He11.out.keep hk12 id id id (fun _ _ _ => id) (fun _ _ => Iff.rfl)))
  clear hk12
  go_wp2_with (go_at_call 31; go_must (refine Hrv.out.mono ?_; rintro e w' ⟨rfl, rfl⟩))
  go_ret
  exact ⟨rfl, HK12.out⟩
end Go.Proofs.QW

/-
  QueryPlain, in memory: the law returns true. Condition: rules and inputs lie, and the table of kinds as it is laid.
-/
namespace Go.Proofs.QW
open Go.RowKit Go.Proofs.KL Go.Proofs.QM
set_option maxRecDepth 100000
set_option linter.unusedSimpArgs false
set_option linter.unusedVariables false

/-- The answer of the specification's Plain, as the statement uses it. -/
def refA (rs : List QRule) (vs : List Int) (q : Int) : RA := (rAsk rs vs (rs.length + 1) [] (List.replicate rs.length none) q).2
theorem badV_false {rs : List QRule} {vs : List Int} (h : badV rs vs = false) : ∀ i, i < rs.length → badAt rs vs i = false := fun i hi => by
  unfold badV at h
  rw [List.any_eq_false] at h
  simpa using h i (List.mem_range.2 hi)
theorem plain_env {rs : List QRule} {vs : List Int} (hc : (check rs).2 = 0) (hl : vs.length = rs.length) (hb : badV rs vs = false) : EnvOk (envP rs vs rs.length) :=
  envP_ok hc hl (badV_false hb) rs.length (by omega) (by have := (check_ok hc).1; omega)
theorem plain_same {rs : List QRule} {vs : List Int} {q : Int} (hc : (check rs).2 = 0) (hl : vs.length = rs.length) (hb : badV rs vs = false) (h0 : 0 ≤ q) (h1 : q < rs.length) :
    (plainF rs vs q).2 = (refA rs vs q).e ∧ ((refA rs vs q).e = 0 → (plainF rs vs q).1 = (refA rs vs q).n) ∧ ((refA rs vs q).e ≠ 0 → (plainF rs vs q).1 = 0) := by
  have hE : EnvOk (envP rs vs rs.length) := plain_env hc hl hb
  have hsim := rAsk_sim hE rfl (rs.length + 1) [] ⟨List.replicate rs.length none, []⟩ (List.replicate rs.length none) q (PInv.fresh rs vs rs.length (by omega)) ⟨by simp; rfl, fun p _ kr h => (by unfold PS.get at h; rw [getD_replicate] at h; cases h), fun p _ kr h => (by unfold PS.get at h; rw [getD_replicate] at h; cases h), fun p _ _ => getD_replicate _ _ _⟩ ⟨h0, h1⟩
  unfold plainF
  rw [if_neg (fun h => h hc), if_neg (fun h => h hl), if_neg (by rw [hb]; decide), if_neg (by omega)]
  have e1 : rAsk (envP rs vs rs.length).rules (envP rs vs rs.length).inp = rAsk rs vs := rfl
  rw [e1] at hsim
  unfold refA
  rcases ha : askF (envP rs vs rs.length) (rs.length + 1) [] ⟨List.replicate rs.length none, []⟩ q with ⟨s1, r1⟩
  rw [ha] at hsim
  obtain ⟨-, hf⟩ := hsim
  cases r1 with
  | error c =>
    obtain ⟨h2, h3⟩ := hf
    exact ⟨h2.symm, fun h => absurd (h2.symm.trans h) h3, fun _ => rfl⟩
  | ok x =>
    obtain ⟨v, ch⟩ := x
    obtain ⟨h2, h3⟩ := hf
    exact ⟨h3.symm, fun _ => h2.symm, fun h => absurd h3 h⟩
theorem take_min {α : Type} (xs : List α) (n m : Nat) (hm : m = min xs.length n) : xs.take n = xs.take m := by
  rw [hm]
  rcases Nat.le_total xs.length n with h | h
  · rw [Nat.min_eq_left h, List.take_of_length_le h, List.take_of_length_le (Nat.le_refl _)]
  · rw [Nat.min_eq_right h]
/-- What is got first of a slice of ints. -/
theorem ints_news {w : World} {X : Nat → Prop} {A : Option Addr} {n c m : Nat} {xs : List Int} (h : IntsX w X (.slice A n c) xs) : ∀ j u, ((xs.take m).map (Value.int .i64))[j]? = some u → ∀ ad, A = some ad → w.cell? (ad.add j) = some u := fun j u hj ad had => by
  have hlt : j < m ∧ j < xs.length := by
    have := (List.getElem?_eq_some_iff.1 hj).1
    rw [List.length_map, List.length_take] at this
    omega
  obtain ⟨A', c', h1, _, h3⟩ := h
  injection h1 with h1 _ _
  obtain ⟨b, o, h, _, hc⟩ := h3 j hlt.2
  rw [← h1, had] at h
  injection h with h
  subst h
  have hu : u = .int .i64 (xs.getD j 0) := by
    rw [List.getElem?_map, List.getElem?_take, if_pos hlt.1, List.getElem?_eq_getElem hlt.2] at hj
    simp at hj
    rw [← hj, List.getD_eq_getElem?_getD, List.getElem?_eq_getElem hlt.2]; rfl
  rw [hu]
  by_cases h0 : j = 0
  · subst h0; simpa [Addr.add] using hc
  · simpa [Addr.add, h0] using hc
set_option maxHeartbeats 40000000 in
/-- QUERYPLAIN. -/
theorem QueryPlain_any (rs : List QRule) (vs : List Int) (q : Int) (w : World) (X Y : Nat → Prop) (rv iv : Value) (hr : RulesX w X rv rs) (hv : IntsX w Y iv vs) (ht : Tab w) :
    Calls Tryd.prog 3 #[rv, iv, .int .i64 q] w fun e w' => e = .returned (.bool true) ∧ Keeps Nob w w' := by
  have HC := Lib.hid (cut_any rs w X rv hr)
  have HT := Lib.hid ht
  have HT0 := Lib.hid (show 0 < w.heap.size from World.block_lt_of_cell? _ _ (ht 1 (by omega) (by omega)).1)
  obtain ⟨rA, rc, rfl, -, -⟩ := id hr
  obtain ⟨iA, ic, rfl, hic, hic2⟩ := id hv
  have HV := Lib.hid hv
  have hnone : iA = none → vs.length = 0 := fun e => by
    rcases Nat.eq_zero_or_pos vs.length with h | h
    · exact h
    · obtain ⟨b, o, h2, _⟩ := hic2 0 h; rw [e] at h2; cases h2
  have Hnone := Lib.hid hnone
  obtain ⟨m, hm⟩ : ∃ m : Nat, m = min vs.length 202 := ⟨_, rfl⟩
  have hmin : (if (202 : Int) < (vs.length : Int) then (202 : Int) else (vs.length : Int)) = (m : Int) := by split <;> omega
  have hm1 : m ≤ vs.length := by omega
  have hm2 : m ≤ 202 := by omega
  have hm3 : m ≤ ic := by omega
  have Hl := Lib.hid (cutM_len rs)
  generalize cutM rs = own at *
  clear hr hv ht hic2 hnone hm hic
  rcases hck : check own with ⟨c1, c2⟩
  have Hck := Lib.hid hck
  clear hck
  cases iA with
  | none =>
    have h0 := Hnone.out rfl
    have hm0 : m = 0 := by omega
    go_enter Tryd.func3, Tryd.ntmps3
    go_wp2_with (first
      | (go_at_call 10; go_must (refine HC.out.mono ?_; rintro e w1 ⟨ov, rfl, hk1, hr1⟩; obtain ⟨oA, oc, rfl, _, _⟩ := id hr1)
         have Hr1 := Lib.hid hr1
         clear hr1
         (try simp only [Act.put, List.setIfInBounds_toArray, List.set_cons_zero, List.set_cons_succ]))
      | ((with_reducible refine at_dst (N := 16) rfl ?_); go_must (refine ev_slice (cs := #[]) (t := 3) (n := 0) (c := 0) rfl (by first | (go_simp; done) | (go_simp; rfl)) ?_; intro gB w2 hgB hlB hbB hk2)
         have HbB := Lib.hid hbB
         have HK2 := Lib.hid (hk1.trans hk2 (fun _ _ h => h))
         have Hr2 := Lib.hid (Hr1.out.keep (X' := fun k => w.heap.size ≤ k ∧ k < w1.heap.size) hk2 (fun _ _ _ => id) (fun _ _ h => h))
         clear hbB
         (try simp only [Act.put, List.setIfInBounds_toArray, List.set_cons_zero, List.set_cons_succ]))
      | ((with_reducible refine at_dst (N := 22) rfl ?_); go_must (refine ev_append (W := w2) (xs := []) (n := 0) (m := 0) (news := (vs.take m).map (Value.int .i64)) rfl rfl Tryd.underlying23 info3 rfl (by decide) (base := 0) rfl ⟨rfl, .inr ⟨gB, 0, #[], rfl, Nat.zero_le _, HbB.out, Nat.le_refl _, Nat.zero_le _, rfl, rfl⟩⟩ rfl (by rw [List.length_map, List.length_take]; omega) (fun h => absurd h (by omega)) (fun u hu => by obtain ⟨x, _, rfl⟩ := List.mem_map.1 hu; rfl) (by omega) (by decide) (Nat.zero_le _) ?_; intro cv w3 hown3 hk3 hr3 hf3; rw [Nat.zero_add] at hown3; obtain ⟨cA, cc, rfl⟩ := own_slice hown3)
         have HgB := Lib.hid (show w1.heap.size ≤ gB from hgB)
         have hk3' : Keeps (fun k => k = gB) w2 w3 := hk3.mono (fun i hi e => by have e : some i = some gB := e; injection e)
         have HK3 := Lib.hid (HK2.out.trans hk3' (fun i hi e => by have h1 := HgB.out; have h2 := hk1.size; omega))
         have Hr3 := Lib.hid (Hr2.out.keep (X' := fun k => w.heap.size ≤ k ∧ k < w1.heap.size) hk3' (fun b _ hx e => by have h1 := HgB.out; have h2 := hx.2; omega) (fun _ _ h => h))
         have Hv3 := Lib.hid (show IntsX w3 (fun _ => True) (.slice cA (0) cc) (vs.take m) from IntsX.own (xs := vs.take m) (by rw [show (vs.take m).length = 0 by rw [List.length_take]; omega]; exact hown3) _ (fun _ _ => trivial))
         clear hown3 hf3 hr3 hk3
         (try simp only [Act.put, List.setIfInBounds_toArray, List.set_cons_zero, List.set_cons_succ]))
    )
    have hrc := RefCheck_any own w3 _ _ Hr3.out
    rw [Hck.out] at hrc
    have Hrc := Lib.hid hrc
    clear hrc
    have Hcv := Lib.hid (show cA = cA from rfl)
    by_cases hc0 : c2 = 0
    · have Hc0 := Lib.hid (show (check own).2 = 0 by rw [Hck.out]; exact hc0)
      have hne : (c2 != 0) = false := by simp [hc0]
      have h200 := (check_ok Hc0.out).1
      clear hc0
      obtain ⟨vb, hvb⟩ : ∃ x, valuesOk own (vs.take m) = x := ⟨_, rfl⟩
      have Hvb := Lib.hid hvb
      clear hvb
      cases vb with
      | false =>
        have hpf : plainF own (vs.take m) q = (0, 2) := by
          have h := Hvb.out
          unfold valuesOk at h
          unfold plainF
          rw [if_neg (fun h => h Hc0.out)]
          by_cases hl : (vs.take m).length = own.length
          · rw [if_neg (fun h => h hl), if_pos]
            rw [decide_eq_true hl, Bool.true_and] at h
            simpa using h
          · rw [if_pos hl]
        have Hpf := Lib.hid hpf
        clear hpf
        go_wp2_with (first
          | (go_at_call 11; go_must (refine Hrc.out.mono ?_; rintro e w4 ⟨rfl, hk4⟩)
             have HK4 := Lib.hid (HK3.out.trans hk4 (fun _ _ h => h))
             have Hr4 := Lib.hid (Hr3.out.keep (X' := fun k => w.heap.size ≤ k ∧ k < w1.heap.size) hk4 (fun _ _ _ => id) (fun _ _ h => h))
             have Hv4 := Lib.hid (Hv3.out.keep (X' := fun _ => True) hk4 (fun _ _ _ => id) (fun _ _ h => h))
             clear hk4
             (try simp only [Act.put, List.setIfInBounds_toArray, List.set_cons_zero, List.set_cons_succ]))
          | (go_at_call 12
             have hva := Values_any own (vs.take m) w4 _ _ _ _ Hr4.out Hv4.out h200
             rw [Hvb.out] at hva
             go_must (refine hva.mono ?_; rintro e w5 ⟨rfl, hw5⟩; obtain rfl := hw5.symm)
             (try simp only [Act.put, List.setIfInBounds_toArray, List.set_cons_zero, List.set_cons_succ]))
          | (go_at_call 15
             have hpl := Plain_any own (vs.take m) q w4 _ _ _ _ Hr4.out Hv4.out (fun _ => HT.out.keep HK4.out id)
             rw [Hpf.out] at hpl
             go_must (refine hpl.mono ?_; rintro e w6 ⟨rfl, hk6⟩)
             have HK6 := Lib.hid (Keeps.trans HK4.out hk6 (fun _ _ h => h))
             clear hk6
             (try simp only [Act.put, List.setIfInBounds_toArray, List.set_cons_zero, List.set_cons_succ]))
          | (go_at_call 14; go_must (refine (alive_any w6 (HT.out.keep HK6.out id)).mono ?_; rintro e w7 ⟨rfl, hk7⟩); (try simp only [Act.put, List.setIfInBounds_toArray, List.set_cons_zero, List.set_cons_succ]))
        )
        go_ret
        exact ⟨rfl, HK6.out.trans hk7 (fun _ _ h => h)⟩
      | true =>
        have hlb : (vs.take m).length = own.length ∧ badV own (vs.take m) = false := by
          have h := Hvb.out
          unfold valuesOk at h
          rw [Bool.and_eq_true] at h
          exact ⟨of_decide_eq_true h.1, by simpa using h.2⟩
        have Hlb := Lib.hid hlb
        clear hlb
        by_cases hq0 : q < 0
        · have hpf : plainF own (vs.take m) q = (0, 5) := by
            unfold plainF
            rw [if_neg (fun h => h Hc0.out), if_neg (fun h => h Hlb.out.1), if_neg (by rw [Hlb.out.2]; decide), if_pos (.inl hq0)]
          have Hpf := Lib.hid hpf
          clear hpf
          go_wp2_with (first
            | (go_at_call 11; go_must (refine Hrc.out.mono ?_; rintro e w4 ⟨rfl, hk4⟩)
               have HK4 := Lib.hid (HK3.out.trans hk4 (fun _ _ h => h))
               have Hr4 := Lib.hid (Hr3.out.keep (X' := fun k => w.heap.size ≤ k ∧ k < w1.heap.size) hk4 (fun _ _ _ => id) (fun _ _ h => h))
               have Hv4 := Lib.hid (Hv3.out.keep (X' := fun _ => True) hk4 (fun _ _ _ => id) (fun _ _ h => h))
               clear hk4
               (try simp only [Act.put, List.setIfInBounds_toArray, List.set_cons_zero, List.set_cons_succ]))
            | (go_at_call 12
               have hva := Values_any own (vs.take m) w4 _ _ _ _ Hr4.out Hv4.out h200
               rw [Hvb.out] at hva
               go_must (refine hva.mono ?_; rintro e w5 ⟨rfl, hw5⟩; obtain rfl := hw5.symm)
               (try simp only [Act.put, List.setIfInBounds_toArray, List.set_cons_zero, List.set_cons_succ]))
            | (go_at_call 15
               have hpl := Plain_any own (vs.take m) q w4 _ _ _ _ Hr4.out Hv4.out (fun _ => HT.out.keep HK4.out id)
               rw [Hpf.out] at hpl
               go_must (refine hpl.mono ?_; rintro e w6 ⟨rfl, hk6⟩)
               have HK6 := Lib.hid (Keeps.trans HK4.out hk6 (fun _ _ h => h))
               clear hk6
               (try simp only [Act.put, List.setIfInBounds_toArray, List.set_cons_zero, List.set_cons_succ]))
            | (go_at_call 14; go_must (refine (alive_any w6 (HT.out.keep HK6.out id)).mono ?_; rintro e w7 ⟨rfl, hk7⟩); (try simp only [Act.put, List.setIfInBounds_toArray, List.set_cons_zero, List.set_cons_succ]))
          )
          go_ret
          exact ⟨rfl, HK6.out.trans hk7 (fun _ _ h => h)⟩
        · by_cases hq1 : (own.length : Int) ≤ q
          · have hpf : plainF own (vs.take m) q = (0, 5) := by
              unfold plainF
              rw [if_neg (fun h => h Hc0.out), if_neg (fun h => h Hlb.out.1), if_neg (by rw [Hlb.out.2]; decide), if_pos (.inr hq1)]
            have Hpf := Lib.hid hpf
            clear hpf
            go_wp2_with (first
              | (go_at_call 11; go_must (refine Hrc.out.mono ?_; rintro e w4 ⟨rfl, hk4⟩)
                 have HK4 := Lib.hid (HK3.out.trans hk4 (fun _ _ h => h))
                 have Hr4 := Lib.hid (Hr3.out.keep (X' := fun k => w.heap.size ≤ k ∧ k < w1.heap.size) hk4 (fun _ _ _ => id) (fun _ _ h => h))
                 have Hv4 := Lib.hid (Hv3.out.keep (X' := fun _ => True) hk4 (fun _ _ _ => id) (fun _ _ h => h))
                 clear hk4
                 (try simp only [Act.put, List.setIfInBounds_toArray, List.set_cons_zero, List.set_cons_succ]))
              | (go_at_call 12
                 have hva := Values_any own (vs.take m) w4 _ _ _ _ Hr4.out Hv4.out h200
                 rw [Hvb.out] at hva
                 go_must (refine hva.mono ?_; rintro e w5 ⟨rfl, hw5⟩; obtain rfl := hw5.symm)
                 (try simp only [Act.put, List.setIfInBounds_toArray, List.set_cons_zero, List.set_cons_succ]))
              | (go_at_call 15
                 have hpl := Plain_any own (vs.take m) q w4 _ _ _ _ Hr4.out Hv4.out (fun _ => HT.out.keep HK4.out id)
                 rw [Hpf.out] at hpl
                 go_must (refine hpl.mono ?_; rintro e w6 ⟨rfl, hk6⟩)
                 have HK6 := Lib.hid (Keeps.trans HK4.out hk6 (fun _ _ h => h))
                 clear hk6
                 (try simp only [Act.put, List.setIfInBounds_toArray, List.set_cons_zero, List.set_cons_succ]))
              | (go_at_call 14; go_must (refine (alive_any w6 (HT.out.keep HK6.out id)).mono ?_; rintro e w7 ⟨rfl, hk7⟩); (try simp only [Act.put, List.setIfInBounds_toArray, List.set_cons_zero, List.set_cons_succ]))
            )
            go_ret
            exact ⟨rfl, HK6.out.trans hk7 (fun _ _ h => h)⟩
          · have hsame := plain_same Hc0.out Hlb.out.1 Hlb.out.2 (q := q) (by omega) (by omega)
            have Hq := Lib.hid (show InQ (envP own (vs.take m) own.length) q from ⟨by omega, by show q < own.length; omega⟩)
            obtain ⟨a, ha⟩ : ∃ a, refA own (vs.take m) q = a := ⟨_, rfl⟩
            rw [ha] at hsame
            have Ha := Lib.hid ha
            obtain ⟨an, ac, ae⟩ := a
            rcases hpf : plainF own (vs.take m) q with ⟨p1, p2⟩
            rw [hpf] at hsame
            obtain ⟨hs1, hs2, hs3⟩ := hsame
            simp only at hs1 hs2 hs3
            subst hs1
            have Hpf := Lib.hid hpf
            have Hs := Lib.hid (And.intro hs2 hs3)
            clear ha hpf hs2 hs3
            by_cases hcost : (3000 : Int) < ac
            · go_wp2_with (first
                | (go_at_call 11; go_must (refine Hrc.out.mono ?_; rintro e w4 ⟨rfl, hk4⟩)
                   have HK4 := Lib.hid (HK3.out.trans hk4 (fun _ _ h => h))
                   have Hr4 := Lib.hid (Hr3.out.keep (X' := fun k => w.heap.size ≤ k ∧ k < w1.heap.size) hk4 (fun _ _ _ => id) (fun _ _ h => h))
                   have Hv4 := Lib.hid (Hv3.out.keep (X' := fun _ => True) hk4 (fun _ _ _ => id) (fun _ _ h => h))
                   clear hk4
                   (try simp only [Act.put, List.setIfInBounds_toArray, List.set_cons_zero, List.set_cons_succ]))
                | (go_at_call 12
                   have hva := Values_any own (vs.take m) w4 _ _ _ _ Hr4.out Hv4.out h200
                   rw [Hvb.out] at hva
                   go_must (refine hva.mono ?_; rintro e w5 ⟨rfl, hw5⟩; obtain rfl := hw5.symm)
                   (try simp only [Act.put, List.setIfInBounds_toArray, List.set_cons_zero, List.set_cons_succ]))
                | (go_at_call 13; go_must (refine (RefPlain_any (plain_env Hc0.out Hlb.out.1 Hlb.out.2) w4 _ _ _ _ q Hr4.out Hv4.out Hq.out Ha.out).mono ?_; rintro e w5 ⟨rfl, hk5⟩)
                   have HK5 := Lib.hid (HK4.out.trans hk5 (fun _ _ h => h))
                   have Hr5 := Lib.hid (Hr4.out.keep (X' := fun k => w.heap.size ≤ k ∧ k < w1.heap.size) hk5 (fun _ _ _ => id) (fun _ _ h => h))
                   have Hv5 := Lib.hid (Hv4.out.keep (X' := fun _ => True) hk5 (fun _ _ _ => id) (fun _ _ h => h))
                   clear hk5
                   (try simp only [Act.put, List.setIfInBounds_toArray, List.set_cons_zero, List.set_cons_succ]))
                | (go_at_call 14; go_must (refine (alive_any w5 (HT.out.keep HK5.out id)).mono ?_; rintro e w7 ⟨rfl, hk7⟩); (try simp only [Act.put, List.setIfInBounds_toArray, List.set_cons_zero, List.set_cons_succ]))
              )
              go_ret
              exact ⟨rfl, HK5.out.trans hk7 (fun _ _ h => h)⟩
            · by_cases hae : p2 = 0
              · have hp1 := Hs.out.1 hae
                subst hp1
                subst hae
                go_wp2_with (first
                  | (go_at_call 11; go_must (refine Hrc.out.mono ?_; rintro e w4 ⟨rfl, hk4⟩)
                     have HK4 := Lib.hid (HK3.out.trans hk4 (fun _ _ h => h))
                     have Hr4 := Lib.hid (Hr3.out.keep (X' := fun k => w.heap.size ≤ k ∧ k < w1.heap.size) hk4 (fun _ _ _ => id) (fun _ _ h => h))
                     have Hv4 := Lib.hid (Hv3.out.keep (X' := fun _ => True) hk4 (fun _ _ _ => id) (fun _ _ h => h))
                     clear hk4
                     (try simp only [Act.put, List.setIfInBounds_toArray, List.set_cons_zero, List.set_cons_succ]))
                  | (go_at_call 12
                     have hva := Values_any own (vs.take m) w4 _ _ _ _ Hr4.out Hv4.out h200
                     rw [Hvb.out] at hva
                     go_must (refine hva.mono ?_; rintro e w5 ⟨rfl, hw5⟩; obtain rfl := hw5.symm)
                     (try simp only [Act.put, List.setIfInBounds_toArray, List.set_cons_zero, List.set_cons_succ]))
                  | (go_at_call 13; go_must (refine (RefPlain_any (plain_env Hc0.out Hlb.out.1 Hlb.out.2) w4 _ _ _ _ q Hr4.out Hv4.out Hq.out Ha.out).mono ?_; rintro e w5 ⟨rfl, hk5⟩)
                     have HK5 := Lib.hid (HK4.out.trans hk5 (fun _ _ h => h))
                     have Hr5 := Lib.hid (Hr4.out.keep (X' := fun k => w.heap.size ≤ k ∧ k < w1.heap.size) hk5 (fun _ _ _ => id) (fun _ _ h => h))
                     have Hv5 := Lib.hid (Hv4.out.keep (X' := fun _ => True) hk5 (fun _ _ _ => id) (fun _ _ h => h))
                     clear hk5
                     (try simp only [Act.put, List.setIfInBounds_toArray, List.set_cons_zero, List.set_cons_succ]))
                  | (go_at_call 15
                     have hpl := Plain_any own (vs.take m) q w5 _ _ _ _ Hr5.out Hv5.out (fun _ => HT.out.keep HK5.out id)
                     rw [Hpf.out] at hpl
                     go_must (refine hpl.mono ?_; rintro e w6 ⟨rfl, hk6⟩)
                     have HK6 := Lib.hid (Keeps.trans HK5.out hk6 (fun _ _ h => h))
                     clear hk6
                     (try simp only [Act.put, List.setIfInBounds_toArray, List.set_cons_zero, List.set_cons_succ]))
                  | (go_at_call 14; go_must (refine (alive_any w6 (HT.out.keep HK6.out id)).mono ?_; rintro e w7 ⟨rfl, hk7⟩); (try simp only [Act.put, List.setIfInBounds_toArray, List.set_cons_zero, List.set_cons_succ]))
                )
                go_ret
                exact ⟨rfl, HK6.out.trans hk7 (fun _ _ h => h)⟩
              · have hp1 := Hs.out.2 hae
                subst hp1
                have hne2 : (p2 != 0) = true := by simpa using hae
                have hze2 : (p2 == 0) = false := by simpa using hae
                clear hae
                go_wp2_with (first
                  | (go_at_call 11; go_must (refine Hrc.out.mono ?_; rintro e w4 ⟨rfl, hk4⟩)
                     have HK4 := Lib.hid (HK3.out.trans hk4 (fun _ _ h => h))
                     have Hr4 := Lib.hid (Hr3.out.keep (X' := fun k => w.heap.size ≤ k ∧ k < w1.heap.size) hk4 (fun _ _ _ => id) (fun _ _ h => h))
                     have Hv4 := Lib.hid (Hv3.out.keep (X' := fun _ => True) hk4 (fun _ _ _ => id) (fun _ _ h => h))
                     clear hk4
                     (try simp only [Act.put, List.setIfInBounds_toArray, List.set_cons_zero, List.set_cons_succ]))
                  | (go_at_call 12
                     have hva := Values_any own (vs.take m) w4 _ _ _ _ Hr4.out Hv4.out h200
                     rw [Hvb.out] at hva
                     go_must (refine hva.mono ?_; rintro e w5 ⟨rfl, hw5⟩; obtain rfl := hw5.symm)
                     (try simp only [Act.put, List.setIfInBounds_toArray, List.set_cons_zero, List.set_cons_succ]))
                  | (go_at_call 13; go_must (refine (RefPlain_any (plain_env Hc0.out Hlb.out.1 Hlb.out.2) w4 _ _ _ _ q Hr4.out Hv4.out Hq.out Ha.out).mono ?_; rintro e w5 ⟨rfl, hk5⟩)
                     have HK5 := Lib.hid (HK4.out.trans hk5 (fun _ _ h => h))
                     have Hr5 := Lib.hid (Hr4.out.keep (X' := fun k => w.heap.size ≤ k ∧ k < w1.heap.size) hk5 (fun _ _ _ => id) (fun _ _ h => h))
                     have Hv5 := Lib.hid (Hv4.out.keep (X' := fun _ => True) hk5 (fun _ _ _ => id) (fun _ _ h => h))
                     clear hk5
                     (try simp only [Act.put, List.setIfInBounds_toArray, List.set_cons_zero, List.set_cons_succ]))
                  | (go_at_call 15
                     have hpl := Plain_any own (vs.take m) q w5 _ _ _ _ Hr5.out Hv5.out (fun _ => HT.out.keep HK5.out id)
                     rw [Hpf.out] at hpl
                     go_must (refine hpl.mono ?_; rintro e w6 ⟨rfl, hk6⟩)
                     have HK6 := Lib.hid (Keeps.trans HK5.out hk6 (fun _ _ h => h))
                     clear hk6
                     (try simp only [Act.put, List.setIfInBounds_toArray, List.set_cons_zero, List.set_cons_succ]))
                  | (go_at_call 14; go_must (refine (alive_any w6 (HT.out.keep HK6.out id)).mono ?_; rintro e w7 ⟨rfl, hk7⟩); (try simp only [Act.put, List.setIfInBounds_toArray, List.set_cons_zero, List.set_cons_succ]))
                )
                go_ret
                exact ⟨rfl, HK6.out.trans hk7 (fun _ _ h => h)⟩
    · have hne : (c2 != 0) = true := by simpa using hc0
      have hze : (c2 == 0) = false := by simpa using hc0
      have hpf : plainF own (vs.take m) q = (0, c2) := by unfold plainF; rw [if_pos (by rw [Hck.out]; exact hc0), Hck.out]
      have Hpf := Lib.hid hpf
      clear hpf hc0
      go_wp2_with (first
        | (go_at_call 11; go_must (refine Hrc.out.mono ?_; rintro e w4 ⟨rfl, hk4⟩)
           have HK4 := Lib.hid (HK3.out.trans hk4 (fun _ _ h => h))
           have Hr4 := Lib.hid (Hr3.out.keep (X' := fun k => w.heap.size ≤ k ∧ k < w1.heap.size) hk4 (fun _ _ _ => id) (fun _ _ h => h))
           have Hv4 := Lib.hid (Hv3.out.keep (X' := fun _ => True) hk4 (fun _ _ _ => id) (fun _ _ h => h))
           clear hk4
           (try simp only [Act.put, List.setIfInBounds_toArray, List.set_cons_zero, List.set_cons_succ]))
        | (go_at_call 15
           have hpl := Plain_any own (vs.take m) q w4 _ _ _ _ Hr4.out Hv4.out (fun _ => HT.out.keep HK4.out id)
           rw [Hpf.out] at hpl
           go_must (refine hpl.mono ?_; rintro e w6 ⟨rfl, hk6⟩)
           have HK6 := Lib.hid (Keeps.trans HK4.out hk6 (fun _ _ h => h))
           clear hk6
           (try simp only [Act.put, List.setIfInBounds_toArray, List.set_cons_zero, List.set_cons_succ]))
        | (go_at_call 14; go_must (refine (alive_any w6 (HT.out.keep HK6.out id)).mono ?_; rintro e w7 ⟨rfl, hk7⟩); (try simp only [Act.put, List.setIfInBounds_toArray, List.set_cons_zero, List.set_cons_succ]))
      )
      go_ret
      exact ⟨rfl, HK6.out.trans hk7 (fun _ _ h => h)⟩
  | some ad =>
    have Hnews := Lib.hid (fun j u hj => ints_news (m := m) HV.out j u hj ad rfl)
    go_enter Tryd.func3, Tryd.ntmps3
    go_wp2_with (first
      | (go_at_call 10; go_must (refine HC.out.mono ?_; rintro e w1 ⟨ov, rfl, hk1, hr1⟩; obtain ⟨oA, oc, rfl, _, _⟩ := id hr1)
         have Hr1 := Lib.hid hr1
         clear hr1
         (try simp only [Act.put, List.setIfInBounds_toArray, List.set_cons_zero, List.set_cons_succ]))
      | ((with_reducible refine at_dst (N := 16) rfl ?_); go_must (refine ev_slice (cs := #[]) (t := 3) (n := 0) (c := 0) rfl (by first | (go_simp; done) | (go_simp; rfl)) ?_; intro gB w2 hgB hlB hbB hk2)
         have HbB := Lib.hid hbB
         have HK2 := Lib.hid (hk1.trans hk2 (fun _ _ h => h))
         have Hr2 := Lib.hid (Hr1.out.keep (X' := fun k => w.heap.size ≤ k ∧ k < w1.heap.size) hk2 (fun _ _ _ => id) (fun _ _ h => h))
         clear hbB
         (try simp only [Act.put, List.setIfInBounds_toArray, List.set_cons_zero, List.set_cons_succ]))
      | ((with_reducible refine at_dst (N := 22) rfl ?_); go_must (refine ev_append (W := w2) (xs := []) (n := 0) (m := m) (news := (vs.take m).map (Value.int .i64)) rfl rfl Tryd.underlying23 info3 rfl (by decide) (base := 0) rfl ⟨rfl, .inr ⟨gB, 0, #[], rfl, Nat.zero_le _, HbB.out, Nat.le_refl _, Nat.zero_le _, rfl, rfl⟩⟩ rfl (by rw [List.length_map, List.length_take]; omega) (fun _ => ⟨ad, rfl, fun j u hj => HK2.out.cell (Hnews.out j u hj) id⟩) (fun u hu => by obtain ⟨x, _, rfl⟩ := List.mem_map.1 hu; rfl) (by omega) (by decide) (Nat.zero_le _) ?_; intro cv w3 hown3 hk3 hr3 hf3; rw [Nat.zero_add] at hown3; obtain ⟨cA, cc, rfl⟩ := own_slice hown3)
         have HgB := Lib.hid (show w1.heap.size ≤ gB from hgB)
         have hk3' : Keeps (fun k => k = gB) w2 w3 := hk3.mono (fun i hi e => by have e : some i = some gB := e; injection e)
         have HK3 := Lib.hid (HK2.out.trans hk3' (fun i hi e => by have h1 := HgB.out; have h2 := hk1.size; omega))
         have Hr3 := Lib.hid (Hr2.out.keep (X' := fun k => w.heap.size ≤ k ∧ k < w1.heap.size) hk3' (fun b _ hx e => by have h1 := HgB.out; have h2 := hx.2; omega) (fun _ _ h => h))
         have Hv3 := Lib.hid (show IntsX w3 (fun _ => True) (.slice cA (m) cc) (vs.take m) from IntsX.own (xs := vs.take m) (by rw [show (vs.take m).length = m by rw [List.length_take]; omega]; exact hown3) _ (fun _ _ => trivial))
         clear hown3 hf3 hr3 hk3
         (try simp only [Act.put, List.setIfInBounds_toArray, List.set_cons_zero, List.set_cons_succ]))
    )
    have hrc := RefCheck_any own w3 _ _ Hr3.out
    rw [Hck.out] at hrc
    have Hrc := Lib.hid hrc
    clear hrc
    have Hcv := Lib.hid (show cA = cA from rfl)
    by_cases hc0 : c2 = 0
    · have Hc0 := Lib.hid (show (check own).2 = 0 by rw [Hck.out]; exact hc0)
      have hne : (c2 != 0) = false := by simp [hc0]
      have h200 := (check_ok Hc0.out).1
      clear hc0
      obtain ⟨vb, hvb⟩ : ∃ x, valuesOk own (vs.take m) = x := ⟨_, rfl⟩
      have Hvb := Lib.hid hvb
      clear hvb
      cases vb with
      | false =>
        have hpf : plainF own (vs.take m) q = (0, 2) := by
          have h := Hvb.out
          unfold valuesOk at h
          unfold plainF
          rw [if_neg (fun h => h Hc0.out)]
          by_cases hl : (vs.take m).length = own.length
          · rw [if_neg (fun h => h hl), if_pos]
            rw [decide_eq_true hl, Bool.true_and] at h
            simpa using h
          · rw [if_pos hl]
        have Hpf := Lib.hid hpf
        clear hpf
        go_wp2_with (first
          | (go_at_call 11; go_must (refine Hrc.out.mono ?_; rintro e w4 ⟨rfl, hk4⟩)
             have HK4 := Lib.hid (HK3.out.trans hk4 (fun _ _ h => h))
             have Hr4 := Lib.hid (Hr3.out.keep (X' := fun k => w.heap.size ≤ k ∧ k < w1.heap.size) hk4 (fun _ _ _ => id) (fun _ _ h => h))
             have Hv4 := Lib.hid (Hv3.out.keep (X' := fun _ => True) hk4 (fun _ _ _ => id) (fun _ _ h => h))
             clear hk4
             (try simp only [Act.put, List.setIfInBounds_toArray, List.set_cons_zero, List.set_cons_succ]))
          | (go_at_call 12
             have hva := Values_any own (vs.take m) w4 _ _ _ _ Hr4.out Hv4.out h200
             rw [Hvb.out] at hva
             go_must (refine hva.mono ?_; rintro e w5 ⟨rfl, hw5⟩; obtain rfl := hw5.symm)
             (try simp only [Act.put, List.setIfInBounds_toArray, List.set_cons_zero, List.set_cons_succ]))
          | (go_at_call 15
             have hpl := Plain_any own (vs.take m) q w4 _ _ _ _ Hr4.out Hv4.out (fun _ => HT.out.keep HK4.out id)
             rw [Hpf.out] at hpl
             go_must (refine hpl.mono ?_; rintro e w6 ⟨rfl, hk6⟩)
             have HK6 := Lib.hid (Keeps.trans HK4.out hk6 (fun _ _ h => h))
             clear hk6
             (try simp only [Act.put, List.setIfInBounds_toArray, List.set_cons_zero, List.set_cons_succ]))
          | (go_at_call 14; go_must (refine (alive_any w6 (HT.out.keep HK6.out id)).mono ?_; rintro e w7 ⟨rfl, hk7⟩); (try simp only [Act.put, List.setIfInBounds_toArray, List.set_cons_zero, List.set_cons_succ]))
        )
        go_ret
        exact ⟨rfl, HK6.out.trans hk7 (fun _ _ h => h)⟩
      | true =>
        have hlb : (vs.take m).length = own.length ∧ badV own (vs.take m) = false := by
          have h := Hvb.out
          unfold valuesOk at h
          rw [Bool.and_eq_true] at h
          exact ⟨of_decide_eq_true h.1, by simpa using h.2⟩
        have Hlb := Lib.hid hlb
        clear hlb
        by_cases hq0 : q < 0
        · have hpf : plainF own (vs.take m) q = (0, 5) := by
            unfold plainF
            rw [if_neg (fun h => h Hc0.out), if_neg (fun h => h Hlb.out.1), if_neg (by rw [Hlb.out.2]; decide), if_pos (.inl hq0)]
          have Hpf := Lib.hid hpf
          clear hpf
          go_wp2_with (first
            | (go_at_call 11; go_must (refine Hrc.out.mono ?_; rintro e w4 ⟨rfl, hk4⟩)
               have HK4 := Lib.hid (HK3.out.trans hk4 (fun _ _ h => h))
               have Hr4 := Lib.hid (Hr3.out.keep (X' := fun k => w.heap.size ≤ k ∧ k < w1.heap.size) hk4 (fun _ _ _ => id) (fun _ _ h => h))
               have Hv4 := Lib.hid (Hv3.out.keep (X' := fun _ => True) hk4 (fun _ _ _ => id) (fun _ _ h => h))
               clear hk4
               (try simp only [Act.put, List.setIfInBounds_toArray, List.set_cons_zero, List.set_cons_succ]))
            | (go_at_call 12
               have hva := Values_any own (vs.take m) w4 _ _ _ _ Hr4.out Hv4.out h200
               rw [Hvb.out] at hva
               go_must (refine hva.mono ?_; rintro e w5 ⟨rfl, hw5⟩; obtain rfl := hw5.symm)
               (try simp only [Act.put, List.setIfInBounds_toArray, List.set_cons_zero, List.set_cons_succ]))
            | (go_at_call 15
               have hpl := Plain_any own (vs.take m) q w4 _ _ _ _ Hr4.out Hv4.out (fun _ => HT.out.keep HK4.out id)
               rw [Hpf.out] at hpl
               go_must (refine hpl.mono ?_; rintro e w6 ⟨rfl, hk6⟩)
               have HK6 := Lib.hid (Keeps.trans HK4.out hk6 (fun _ _ h => h))
               clear hk6
               (try simp only [Act.put, List.setIfInBounds_toArray, List.set_cons_zero, List.set_cons_succ]))
            | (go_at_call 14; go_must (refine (alive_any w6 (HT.out.keep HK6.out id)).mono ?_; rintro e w7 ⟨rfl, hk7⟩); (try simp only [Act.put, List.setIfInBounds_toArray, List.set_cons_zero, List.set_cons_succ]))
          )
          go_ret
          exact ⟨rfl, HK6.out.trans hk7 (fun _ _ h => h)⟩
        · by_cases hq1 : (own.length : Int) ≤ q
          · have hpf : plainF own (vs.take m) q = (0, 5) := by
              unfold plainF
              rw [if_neg (fun h => h Hc0.out), if_neg (fun h => h Hlb.out.1), if_neg (by rw [Hlb.out.2]; decide), if_pos (.inr hq1)]
            have Hpf := Lib.hid hpf
            clear hpf
            go_wp2_with (first
              | (go_at_call 11; go_must (refine Hrc.out.mono ?_; rintro e w4 ⟨rfl, hk4⟩)
                 have HK4 := Lib.hid (HK3.out.trans hk4 (fun _ _ h => h))
                 have Hr4 := Lib.hid (Hr3.out.keep (X' := fun k => w.heap.size ≤ k ∧ k < w1.heap.size) hk4 (fun _ _ _ => id) (fun _ _ h => h))
                 have Hv4 := Lib.hid (Hv3.out.keep (X' := fun _ => True) hk4 (fun _ _ _ => id) (fun _ _ h => h))
                 clear hk4
                 (try simp only [Act.put, List.setIfInBounds_toArray, List.set_cons_zero, List.set_cons_succ]))
              | (go_at_call 12
                 have hva := Values_any own (vs.take m) w4 _ _ _ _ Hr4.out Hv4.out h200
                 rw [Hvb.out] at hva
                 go_must (refine hva.mono ?_; rintro e w5 ⟨rfl, hw5⟩; obtain rfl := hw5.symm)
                 (try simp only [Act.put, List.setIfInBounds_toArray, List.set_cons_zero, List.set_cons_succ]))
              | (go_at_call 15
                 have hpl := Plain_any own (vs.take m) q w4 _ _ _ _ Hr4.out Hv4.out (fun _ => HT.out.keep HK4.out id)
                 rw [Hpf.out] at hpl
                 go_must (refine hpl.mono ?_; rintro e w6 ⟨rfl, hk6⟩)
                 have HK6 := Lib.hid (Keeps.trans HK4.out hk6 (fun _ _ h => h))
                 clear hk6
                 (try simp only [Act.put, List.setIfInBounds_toArray, List.set_cons_zero, List.set_cons_succ]))
              | (go_at_call 14; go_must (refine (alive_any w6 (HT.out.keep HK6.out id)).mono ?_; rintro e w7 ⟨rfl, hk7⟩); (try simp only [Act.put, List.setIfInBounds_toArray, List.set_cons_zero, List.set_cons_succ]))
            )
            go_ret
            exact ⟨rfl, HK6.out.trans hk7 (fun _ _ h => h)⟩
          · have hsame := plain_same Hc0.out Hlb.out.1 Hlb.out.2 (q := q) (by omega) (by omega)
            have Hq := Lib.hid (show InQ (envP own (vs.take m) own.length) q from ⟨by omega, by show q < own.length; omega⟩)
            obtain ⟨a, ha⟩ : ∃ a, refA own (vs.take m) q = a := ⟨_, rfl⟩
            rw [ha] at hsame
            have Ha := Lib.hid ha
            obtain ⟨an, ac, ae⟩ := a
            rcases hpf : plainF own (vs.take m) q with ⟨p1, p2⟩
            rw [hpf] at hsame
            obtain ⟨hs1, hs2, hs3⟩ := hsame
            simp only at hs1 hs2 hs3
            subst hs1
            have Hpf := Lib.hid hpf
            have Hs := Lib.hid (And.intro hs2 hs3)
            clear ha hpf hs2 hs3
            by_cases hcost : (3000 : Int) < ac
            · go_wp2_with (first
                | (go_at_call 11; go_must (refine Hrc.out.mono ?_; rintro e w4 ⟨rfl, hk4⟩)
                   have HK4 := Lib.hid (HK3.out.trans hk4 (fun _ _ h => h))
                   have Hr4 := Lib.hid (Hr3.out.keep (X' := fun k => w.heap.size ≤ k ∧ k < w1.heap.size) hk4 (fun _ _ _ => id) (fun _ _ h => h))
                   have Hv4 := Lib.hid (Hv3.out.keep (X' := fun _ => True) hk4 (fun _ _ _ => id) (fun _ _ h => h))
                   clear hk4
                   (try simp only [Act.put, List.setIfInBounds_toArray, List.set_cons_zero, List.set_cons_succ]))
                | (go_at_call 12
                   have hva := Values_any own (vs.take m) w4 _ _ _ _ Hr4.out Hv4.out h200
                   rw [Hvb.out] at hva
                   go_must (refine hva.mono ?_; rintro e w5 ⟨rfl, hw5⟩; obtain rfl := hw5.symm)
                   (try simp only [Act.put, List.setIfInBounds_toArray, List.set_cons_zero, List.set_cons_succ]))
                | (go_at_call 13; go_must (refine (RefPlain_any (plain_env Hc0.out Hlb.out.1 Hlb.out.2) w4 _ _ _ _ q Hr4.out Hv4.out Hq.out Ha.out).mono ?_; rintro e w5 ⟨rfl, hk5⟩)
                   have HK5 := Lib.hid (HK4.out.trans hk5 (fun _ _ h => h))
                   have Hr5 := Lib.hid (Hr4.out.keep (X' := fun k => w.heap.size ≤ k ∧ k < w1.heap.size) hk5 (fun _ _ _ => id) (fun _ _ h => h))
                   have Hv5 := Lib.hid (Hv4.out.keep (X' := fun _ => True) hk5 (fun _ _ _ => id) (fun _ _ h => h))
                   clear hk5
                   (try simp only [Act.put, List.setIfInBounds_toArray, List.set_cons_zero, List.set_cons_succ]))
                | (go_at_call 14; go_must (refine (alive_any w5 (HT.out.keep HK5.out id)).mono ?_; rintro e w7 ⟨rfl, hk7⟩); (try simp only [Act.put, List.setIfInBounds_toArray, List.set_cons_zero, List.set_cons_succ]))
              )
              go_ret
              exact ⟨rfl, HK5.out.trans hk7 (fun _ _ h => h)⟩
            · by_cases hae : p2 = 0
              · have hp1 := Hs.out.1 hae
                subst hp1
                subst hae
                go_wp2_with (first
                  | (go_at_call 11; go_must (refine Hrc.out.mono ?_; rintro e w4 ⟨rfl, hk4⟩)
                     have HK4 := Lib.hid (HK3.out.trans hk4 (fun _ _ h => h))
                     have Hr4 := Lib.hid (Hr3.out.keep (X' := fun k => w.heap.size ≤ k ∧ k < w1.heap.size) hk4 (fun _ _ _ => id) (fun _ _ h => h))
                     have Hv4 := Lib.hid (Hv3.out.keep (X' := fun _ => True) hk4 (fun _ _ _ => id) (fun _ _ h => h))
                     clear hk4
                     (try simp only [Act.put, List.setIfInBounds_toArray, List.set_cons_zero, List.set_cons_succ]))
                  | (go_at_call 12
                     have hva := Values_any own (vs.take m) w4 _ _ _ _ Hr4.out Hv4.out h200
                     rw [Hvb.out] at hva
                     go_must (refine hva.mono ?_; rintro e w5 ⟨rfl, hw5⟩; obtain rfl := hw5.symm)
                     (try simp only [Act.put, List.setIfInBounds_toArray, List.set_cons_zero, List.set_cons_succ]))
                  | (go_at_call 13; go_must (refine (RefPlain_any (plain_env Hc0.out Hlb.out.1 Hlb.out.2) w4 _ _ _ _ q Hr4.out Hv4.out Hq.out Ha.out).mono ?_; rintro e w5 ⟨rfl, hk5⟩)
                     have HK5 := Lib.hid (HK4.out.trans hk5 (fun _ _ h => h))
                     have Hr5 := Lib.hid (Hr4.out.keep (X' := fun k => w.heap.size ≤ k ∧ k < w1.heap.size) hk5 (fun _ _ _ => id) (fun _ _ h => h))
                     have Hv5 := Lib.hid (Hv4.out.keep (X' := fun _ => True) hk5 (fun _ _ _ => id) (fun _ _ h => h))
                     clear hk5
                     (try simp only [Act.put, List.setIfInBounds_toArray, List.set_cons_zero, List.set_cons_succ]))
                  | (go_at_call 15
                     have hpl := Plain_any own (vs.take m) q w5 _ _ _ _ Hr5.out Hv5.out (fun _ => HT.out.keep HK5.out id)
                     rw [Hpf.out] at hpl
                     go_must (refine hpl.mono ?_; rintro e w6 ⟨rfl, hk6⟩)
                     have HK6 := Lib.hid (Keeps.trans HK5.out hk6 (fun _ _ h => h))
                     clear hk6
                     (try simp only [Act.put, List.setIfInBounds_toArray, List.set_cons_zero, List.set_cons_succ]))
                  | (go_at_call 14; go_must (refine (alive_any w6 (HT.out.keep HK6.out id)).mono ?_; rintro e w7 ⟨rfl, hk7⟩); (try simp only [Act.put, List.setIfInBounds_toArray, List.set_cons_zero, List.set_cons_succ]))
                )
                go_ret
                exact ⟨rfl, HK6.out.trans hk7 (fun _ _ h => h)⟩
              · have hp1 := Hs.out.2 hae
                subst hp1
                have hne2 : (p2 != 0) = true := by simpa using hae
                have hze2 : (p2 == 0) = false := by simpa using hae
                clear hae
                go_wp2_with (first
                  | (go_at_call 11; go_must (refine Hrc.out.mono ?_; rintro e w4 ⟨rfl, hk4⟩)
                     have HK4 := Lib.hid (HK3.out.trans hk4 (fun _ _ h => h))
                     have Hr4 := Lib.hid (Hr3.out.keep (X' := fun k => w.heap.size ≤ k ∧ k < w1.heap.size) hk4 (fun _ _ _ => id) (fun _ _ h => h))
                     have Hv4 := Lib.hid (Hv3.out.keep (X' := fun _ => True) hk4 (fun _ _ _ => id) (fun _ _ h => h))
                     clear hk4
                     (try simp only [Act.put, List.setIfInBounds_toArray, List.set_cons_zero, List.set_cons_succ]))
                  | (go_at_call 12
                     have hva := Values_any own (vs.take m) w4 _ _ _ _ Hr4.out Hv4.out h200
                     rw [Hvb.out] at hva
                     go_must (refine hva.mono ?_; rintro e w5 ⟨rfl, hw5⟩; obtain rfl := hw5.symm)
                     (try simp only [Act.put, List.setIfInBounds_toArray, List.set_cons_zero, List.set_cons_succ]))
                  | (go_at_call 13; go_must (refine (RefPlain_any (plain_env Hc0.out Hlb.out.1 Hlb.out.2) w4 _ _ _ _ q Hr4.out Hv4.out Hq.out Ha.out).mono ?_; rintro e w5 ⟨rfl, hk5⟩)
                     have HK5 := Lib.hid (HK4.out.trans hk5 (fun _ _ h => h))
                     have Hr5 := Lib.hid (Hr4.out.keep (X' := fun k => w.heap.size ≤ k ∧ k < w1.heap.size) hk5 (fun _ _ _ => id) (fun _ _ h => h))
                     have Hv5 := Lib.hid (Hv4.out.keep (X' := fun _ => True) hk5 (fun _ _ _ => id) (fun _ _ h => h))
                     clear hk5
                     (try simp only [Act.put, List.setIfInBounds_toArray, List.set_cons_zero, List.set_cons_succ]))
                  | (go_at_call 15
                     have hpl := Plain_any own (vs.take m) q w5 _ _ _ _ Hr5.out Hv5.out (fun _ => HT.out.keep HK5.out id)
                     rw [Hpf.out] at hpl
                     go_must (refine hpl.mono ?_; rintro e w6 ⟨rfl, hk6⟩)
                     have HK6 := Lib.hid (Keeps.trans HK5.out hk6 (fun _ _ h => h))
                     clear hk6
                     (try simp only [Act.put, List.setIfInBounds_toArray, List.set_cons_zero, List.set_cons_succ]))
                  | (go_at_call 14; go_must (refine (alive_any w6 (HT.out.keep HK6.out id)).mono ?_; rintro e w7 ⟨rfl, hk7⟩); (try simp only [Act.put, List.setIfInBounds_toArray, List.set_cons_zero, List.set_cons_succ]))
                )
                go_ret
                exact ⟨rfl, HK6.out.trans hk7 (fun _ _ h => h)⟩
    · have hne : (c2 != 0) = true := by simpa using hc0
      have hze : (c2 == 0) = false := by simpa using hc0
      have hpf : plainF own (vs.take m) q = (0, c2) := by unfold plainF; rw [if_pos (by rw [Hck.out]; exact hc0), Hck.out]
      have Hpf := Lib.hid hpf
      clear hpf hc0
      go_wp2_with (first
        | (go_at_call 11; go_must (refine Hrc.out.mono ?_; rintro e w4 ⟨rfl, hk4⟩)
           have HK4 := Lib.hid (HK3.out.trans hk4 (fun _ _ h => h))
           have Hr4 := Lib.hid (Hr3.out.keep (X' := fun k => w.heap.size ≤ k ∧ k < w1.heap.size) hk4 (fun _ _ _ => id) (fun _ _ h => h))
           have Hv4 := Lib.hid (Hv3.out.keep (X' := fun _ => True) hk4 (fun _ _ _ => id) (fun _ _ h => h))
           clear hk4
           (try simp only [Act.put, List.setIfInBounds_toArray, List.set_cons_zero, List.set_cons_succ]))
        | (go_at_call 15
           have hpl := Plain_any own (vs.take m) q w4 _ _ _ _ Hr4.out Hv4.out (fun _ => HT.out.keep HK4.out id)
           rw [Hpf.out] at hpl
           go_must (refine hpl.mono ?_; rintro e w6 ⟨rfl, hk6⟩)
           have HK6 := Lib.hid (Keeps.trans HK4.out hk6 (fun _ _ h => h))
           clear hk6
           (try simp only [Act.put, List.setIfInBounds_toArray, List.set_cons_zero, List.set_cons_succ]))
        | (go_at_call 14; go_must (refine (alive_any w6 (HT.out.keep HK6.out id)).mono ?_; rintro e w7 ⟨rfl, hk7⟩); (try simp only [Act.put, List.setIfInBounds_toArray, List.set_cons_zero, List.set_cons_succ]))
      )
      go_ret
      exact ⟨rfl, HK6.out.trans hk7 (fun _ _ h => h)⟩
end Go.Proofs.QW

/-
  An engine that is played: whatever is set, forgotten and asked, what it keeps is right; and asking it without a bound comes to what Plain comes to. No program in sight. No condition.
-/
namespace Go.Proofs.QW
open Go.Proofs.QM
set_option linter.unusedVariables false

/-- A call of an engine. -/
structure ActR where
  kind : Int
  q : Int
  v : Int
deriving Inhabited
def Env.bound (E : Env) (m : Int) : Env := { E with most := m }
def askS (E : Env) (ans : List (Option KeptR)) (q most : Int) : List (Option KeptR) :=
  if isErr E.rules.length q ≠ 0 ∨ most < 0 then ans else (askF (Env.bound E most) (E.rules.length + 1) [] ⟨ans, []⟩ q).1.ans
def forgetF (E : Env) (ans : List (Option KeptR)) (q : Int) : List (Option KeptR) × Int :=
  if isErr E.rules.length q ≠ 0 then (ans, 5) else if (E.rule q).kind = 1 then (ans, 2) else
    match ans.getD q.toNat none with
    | none => (ans, 8)
    | some _ => (ans.set q.toNat none, 0)
abbrev State := Env × List (Option KeptR)
def stepA (S : State) (a : ActR) : State :=
  if a.kind % 8 < 3 then ((setF S.1 a.q a.v).1, S.2)
  else if a.kind % 8 = 3 then (S.1, (forgetF S.1 S.2 a.q).1)
  else if a.kind % 8 = 4 then (S.1, askS S.1 S.2 a.q a.v)
  else (S.1, askS S.1 S.2 a.q 1073741824)
structure SInv (rs : List QRule) (n : Int) (S : State) : Prop where
  rules : S.1.rules = rs
  ok : EnvOk (Env.bound S.1 0)
  rev : S.1.rev ≤ n
  inv : PInv (Env.bound S.1 0) [] ⟨S.2, []⟩
  his : ∃ hist, HInv (Env.bound S.1 0) hist ⟨S.2, []⟩
theorem SInv.env {rs : List QRule} {n : Int} {S : State} (h : SInv rs n S) {m : Int} (h0 : 0 ≤ m) (h1 : m ≤ 9223372036854775807) : EnvOk (Env.bound S.1 m) :=
  ⟨h.ok.len, h.ok.rok, h.ok.ilen, h.ok.clen, h.ok.ival, h.ok.rev0, h.ok.rev1, h0, h1⟩
theorem SInv.pinv {rs : List QRule} {n : Int} {S : State} (h : SInv rs n S) {m : Int} (h0 : 0 ≤ m) : PInv (Env.bound S.1 m) [] ⟨S.2, []⟩ :=
  PInv.again h.inv rfl h0
theorem HInv.bound {E : Env} {hist : Hist} {s s' : PS} {m m' : Int} (h : HInv (Env.bound E m) hist s) (hs : s'.ans = s.ans) : HInv (Env.bound E m') hist s' := by
  obtain ⟨a, d⟩ := s
  obtain ⟨a', d'⟩ := s'
  obtain rfl : a' = a := hs
  exact ⟨h.now, h.le, h.tr, h.chg, h.nin, h.asked⟩
theorem isErr_in {n : Nat} {q : Int} (h : ¬ isErr n q ≠ 0) : 0 ≤ q ∧ q < n := by
  unfold isErr at h
  split at h
  · exact absurd (by decide) h
  · omega
theorem SInv.ask {rs : List QRule} {n : Int} {S : State} (h : SInv rs n S) (q m : Int) (h1 : m ≤ 9223372036854775807) : SInv rs n (S.1, askS S.1 S.2 q m) := by
  unfold askS
  by_cases hc : isErr S.1.rules.length q ≠ 0 ∨ m < 0
  · rw [if_pos hc]; exact ⟨h.rules, h.ok, h.rev, h.inv, h.his⟩
  · rw [if_neg hc]
    have hq : InQ (Env.bound S.1 m) q := isErr_in (fun e => hc (.inl e))
    have h0 : 0 ≤ m := by omega
    obtain ⟨hist, hh⟩ := h.his
    have hg := (askF_good (h.env h0 h1) (S.1.rules.length + 1) [] ⟨S.2, []⟩ q (h.pinv h0) hq).1
    have hA := (askF_h (h.env h0 h1) (hist := hist) (S.1.rules.length + 1) [] (by simp [Env.bound]) ⟨S.2, []⟩ q (h.pinv h0) (HInv.bound hh rfl) hq (fun p hp => by cases hp)).1
    refine ⟨h.rules, h.ok, h.rev, PInv.again hg.inv rfl (Int.le_refl 0), hist, HInv.bound hA rfl⟩
theorem getD_set_none {ans : List (Option KeptR)} {i j : Nat} : (ans.set i none).getD j none = if j = i then none else ans.getD j none := by
  rw [List.getD_eq_getElem?_getD, List.getElem?_set]
  by_cases e : j = i
  · subst e
    rw [if_pos rfl, if_pos rfl]
    split <;> rfl
  · rw [if_neg (fun h => e h.symm), if_neg e, List.getD_eq_getElem?_getD]
theorem SInv.forget {rs : List QRule} {n : Int} {S : State} (h : SInv rs n S) (q : Int) : SInv rs n (S.1, (forgetF S.1 S.2 q).1) := by
  have hsame : SInv rs n (S.1, S.2) := ⟨h.rules, h.ok, h.rev, h.inv, h.his⟩
  unfold forgetF
  split
  · exact hsame
  split
  · exact hsame
  split
  · exact hsame
  obtain ⟨hist, hh⟩ := h.his
  have hget : ∀ p k, (⟨S.2.set q.toNat none, []⟩ : PS).get p = some k → (⟨S.2, []⟩ : PS).get p = some k := fun p k hk => by
    unfold PS.get at hk ⊢
    simp only [getD_set_none] at hk
    split at hk
    · cases hk
    · exact hk
  have hhas : ∀ a v ch, Has (Env.bound S.1 0) ⟨S.2.set q.toNat none, []⟩ a v ch → Has (Env.bound S.1 0) ⟨S.2, []⟩ a v ch := fun a v ch hx => by
    rcases hx with hx | ⟨hk, k, h1, h2⟩
    · exact .inl hx
    · exact .inr ⟨hk, k, hget a k h1, h2⟩
  refine ⟨h.rules, h.ok, h.rev, ⟨?_, fun p k hp hk => h.inv.kok p k hp (hget p k hk), List.nodup_nil, fun p hp => (by cases hp), Int.le_refl 0, fun p hp => (by cases hp), List.nodup_nil, fun p hp => (by cases hp)⟩, hist,
    ⟨hh.now, fun p k hp hk => hh.le p k hp (hget p k hk), fun p k hp hk => hh.tr p k hp (hget p k hk), fun p kp hp hk a ha v ch hx hle => hh.chg p kp hp (hget p kp hk) a ha v ch (hhas a v ch hx) hle, fun p k hp hk => hh.nin p k hp (hget p k hk), fun p k hp hk => hh.asked p k hp (hget p k hk)⟩⟩
  simpa using h.inv.alen
theorem getD_set_int {l : List Int} {i j : Nat} {v : Int} (hi : i < l.length) : (l.set i v).getD j 0 = if j = i then v else l.getD j 0 := by
  rw [List.getD_eq_getElem?_getD, List.getElem?_set]
  by_cases e : j = i
  · subst e; rw [if_pos rfl, if_pos rfl, if_pos hi]; rfl
  · rw [if_neg (fun h => e h.symm), if_neg e, List.getD_eq_getElem?_getD]
theorem SInv.set {rs : List QRule} {n : Int} {S : State} (h : SInv rs n S) (q v : Int) (hn : n < 4611686018427387904) : SInv rs (n + 1) ((setF S.1 q v).1, S.2) := by
  have hsame : SInv rs (n + 1) (S.1, S.2) := ⟨h.rules, h.ok, by have := h.rev; show S.1.rev ≤ n + 1; omega, h.inv, h.his⟩
  unfold setF
  split
  · exact hsame
  rename_i hc
  have hq := isErr_in hc
  split
  · exact hsame
  rename_i hv
  split
  · have hl : q.toNat < S.1.inp.length := by have := h.ok.ilen; have h2 : S.1.inp.length = S.1.rules.length := this; omega
    have hl2 : q.toNat < S.1.inpCh.length := by have := h.ok.clen; have h2 : S.1.inpCh.length = S.1.rules.length := this; omega
    have hrev := h.rev
    have hr0 : 0 ≤ S.1.rev := h.ok.rev0
    obtain ⟨hist, hh⟩ := h.his
    have hle : ∀ p k, InQ (Env.bound S.1 0) p → (⟨S.2, []⟩ : PS).get p = some k → k.checked ≤ S.1.rev := fun p k hp hk => hh.le p k hp hk
    have hho : ∀ c, c ≤ S.1.rev → (fun c => if c = S.1.rev + 1 then S.1.inp.set q.toNat v else hist c : Hist) c = hist c := fun c hc => by
      show (if c = S.1.rev + 1 then _ else _) = _
      rw [if_neg (by omega)]
    refine ⟨h.rules, ⟨h.ok.len, h.ok.rok, by simpa [Env.bound] using h.ok.ilen, by simpa [Env.bound] using h.ok.clen, fun p h0 h1 hk => ?_, by show (0 : Int) ≤ S.1.rev + 1; omega, by show S.1.rev + 1 ≤ _; omega, Int.le_refl 0, by show (0 : Int) ≤ 9223372036854775807; decide⟩, by show S.1.rev + 1 ≤ n + 1; omega,
      PInv.again h.inv rfl (Int.le_refl 0),
      fun c => if c = S.1.rev + 1 then S.1.inp.set q.toNat v else hist c, ⟨?_, fun p k hp hk => ?_, fun p k hp hk => ?_, fun p kp hp hk a ha u ch hx hle2 => ?_, hh.nin, hh.asked⟩⟩
    · show 0 ≤ (S.1.inp.set q.toNat v).getD p.toNat 0 ∧ (S.1.inp.set q.toNat v).getD p.toNat 0 ≤ 1048576
      rw [getD_set_int hl]
      split
      · omega
      · exact h.ok.ival p h0 h1 hk
    · show (if S.1.rev + 1 = S.1.rev + 1 then _ else _) = _
      rw [if_pos rfl]; rfl
    · have := hle p k hp hk
      show k.checked ≤ S.1.rev + 1
      omega
    · have t := hh.tr p k hp hk
      rw [← hho _ (hle p k hp hk)] at t
      exact t
    · have hck := hle p kp hp hk
      have haq := hh.asked p kp hp hk a ha
      suffices hsuf : Val S.1.rules (hist kp.checked) a u by
        rw [← hho _ hck] at hsuf
        exact hsuf
      refine hh.chg p kp hp hk a ha u ch ?_ hle2
      rcases hx with ⟨hi, hu, hc2⟩ | hx
      · have hu : u = (S.1.inp.set q.toNat v).getD a.toNat 0 := hu
        have hc2 : ch = (S.1.inpCh.set q.toNat (S.1.rev + 1)).getD a.toNat 0 := hc2
        rw [getD_set_int hl] at hu
        rw [getD_set_int hl2] at hc2
        by_cases e : a.toNat = q.toNat
        · rw [if_pos e] at hc2; omega
        · rw [if_neg e] at hu hc2; exact .inl ⟨hi, hu, hc2⟩
      · exact .inr hx
  · exact hsame
theorem SInv.step {rs : List QRule} {n : Int} {S : State} (h : SInv rs n S) (a : ActR) (hn : n < 4611686018427387904) (hv : a.v ≤ 9223372036854775807) : SInv rs (n + 1) (stepA S a) := by
  have hup : ∀ {T : State}, SInv rs n T → SInv rs (n + 1) T := fun h => ⟨h.rules, h.ok, by have := h.rev; omega, h.inv, h.his⟩
  unfold stepA
  split
  · exact h.set a.q a.v hn
  split
  · exact hup (h.forget a.q)
  split
  · exact hup (h.ask a.q a.v hv)
  · exact hup (h.ask a.q _ (by decide))
theorem fresh_get (n : Nat) (d : List Int) (q : Int) : (⟨List.replicate n none, d⟩ : PS).get q = none := by unfold PS.get; exact getD_replicate _ _ _
theorem HInv.fresh {E : Env} (n : Nat) : HInv E (fun _ => E.inp) ⟨List.replicate n none, []⟩ :=
  ⟨rfl, fun q k _ h => (by rw [fresh_get] at h; cases h), fun q k _ h => (by rw [fresh_get] at h; cases h), fun q k _ h => (by rw [fresh_get] at h; cases h), fun q k _ h => (by rw [fresh_get] at h; cases h), fun q k _ h => (by rw [fresh_get] at h; cases h)⟩
theorem SInv.start {rs : List QRule} (hc : (check rs).2 = 0) : SInv rs 0 (fresh rs 0, List.replicate rs.length none) := by
  have h0 : ∀ i, i < rs.length → badAt rs (List.replicate rs.length 0) i = false := fun i hi => by
    unfold badAt
    rw [getD_replicate]
    simp
  have hE : EnvOk (envP rs (List.replicate rs.length 0) 0) := envP_ok hc (by simp) h0 0 (Int.le_refl 0) (by decide)
  exact ⟨rfl, hE, Int.le_refl 0, PInv.fresh rs _ 0 (Int.le_refl 0), _, HInv.fresh rs.length⟩
/-- Of a bound that is not too small, asking never ends by it. -/
def No13 (E : Env) (on : List Int) (ask : AskFn) : Prop := ∀ s q, PInv E on s → InQ E q → (ask s q).2 ≠ .error 13
theorem askAll_13 {E : Env} {on : List Int} {ask : AskFn} (hg : QM.Good E on ask) (hn : No13 E on ask) (stop : Bool) : ∀ (l : List Int) (s : PS), PInv E on s → (∀ q ∈ l, InQ E q) → (askAll ask stop s l).2 ≠ .error 13
  | [], s, _, _ => by simp [askAll]
  | q :: r, s, hp, hq => by
    have h1 := hn s q hp (hq q List.mem_cons_self)
    have h2 := (hg s q hp (hq q List.mem_cons_self)).1.inv
    unfold askAll
    rcases hr : ask s q with ⟨s1, r1⟩
    rw [hr] at h1 h2
    cases r1 with
    | error e => intro h; exact h1 (by simpa using h)
    | ok x =>
      obtain ⟨v, ch⟩ := x
      simp only
      split
      · simp
      · have ih := askAll_13 hg hn stop r s1 h2 (fun x hx => hq x (List.mem_cons_of_mem _ hx))
        rcases hr2 : askAll ask stop s1 r with ⟨s2, r2⟩
        rw [hr2] at ih
        cases r2 with
        | error e => intro h; exact ih (by simpa using h)
        | ok vs => simp
theorem evalR_13 {E : Env} {on : List Int} {ask : AskFn} (hg : QM.Good E on ask) (hn : No13 E on ask) {r : QRule} (hr : ROk E.rules.length r) {s : PS} (hp : PInv E on s) : (evalR ask s r).2 ≠ .error 13 := by
  unfold evalR
  split
  · rename_i hk
    have hq0 := (pick_mem (E := E) (v := 0) hr hk (by omega)).2
    have h1 := hn s _ hp hq0
    have h2 := hg s _ hp hq0
    rcases hr1 : ask s (r.asks.getD 0 0) with ⟨s1, r1⟩
    rw [hr1] at h1 h2
    cases r1 with
    | error e => intro h; exact h1 (by simpa using h)
    | ok x =>
      obtain ⟨v, ch⟩ := x
      have hqp := (pick_mem (E := E) hr hk (h2.2 v ch rfl).1).1
      have h3 := hn s1 _ h2.1.inv hqp
      simp only
      rcases hr2 : ask s1 (pickOf r v) with ⟨s2, r2⟩
      rw [hr2] at h3
      cases r2 with
      | error e => intro h; exact h3 (by simpa using h)
      | ok y => simp
  · have h1 := askAll_13 hg hn (r.kind == 4) r.asks s hp (fun q hq => hr.asks q hq)
    rcases hr1 : askAll ask (r.kind == 4) s r.asks with ⟨s1, r1⟩
    rw [hr1] at h1
    cases r1 with
    | error e => intro h; exact h1 (by simpa using h)
    | ok got => simp
theorem staleF_13 {E : Env} {on : List Int} {ask : AskFn} (hg : QM.Good E on ask) (hn : No13 E on ask) (c : Int) : ∀ (l : List Int) (s : PS), PInv E on s → (∀ q ∈ l, InQ E q) → (staleF ask c s l).2 ≠ .error 13
  | [], s, _, _ => by simp [staleF]
  | q :: r, s, hp, hq => by
    have h1 := hn s q hp (hq q List.mem_cons_self)
    have h2 := (hg s q hp (hq q List.mem_cons_self)).1.inv
    unfold staleF
    rcases hr : ask s q with ⟨s1, r1⟩
    rw [hr] at h1 h2
    cases r1 with
    | error e => intro h; exact h1 (by simpa using h)
    | ok x =>
      obtain ⟨v, ch⟩ := x
      simp only
      split
      · simp
      · exact staleF_13 hg hn c r s1 h2 (fun x hx => hq x (List.mem_cons_of_mem _ hx))
theorem workF_13 {E : Env} (hE : EnvOk E) (hm : (E.rules.length : Int) ≤ E.most) {on : List Int} {ask : AskFn} {q : Int} (hg : QM.Good E (q :: on) ask) (hn : No13 E (q :: on) ask) (hq : InQ E q) {s : PS} (hp : PInv E (q :: on) s) (was : Option KeptR) : (workF E ask s q was).2 ≠ .error 13 := by
  have hr := hE.rok _ (rule_mem hq)
  have h1 := evalR_13 hg hn hr hp
  have h2 := (evalR_good hE hg hr hp).1.inv
  unfold workF
  rcases he : evalR ask s (E.rule q) with ⟨s1, r1⟩
  rw [he] at h1 h2
  cases r1 with
  | error e => intro h; exact h1 (by simpa using h)
  | ok x =>
    obtain ⟨v, asked⟩ := x
    simp only at h2 ⊢
    have hq1 : q ∉ s1.done := fun hd => by
      obtain ⟨_, kr, hkr, hc⟩ := h2.dok q hd
      exact h2.onk q List.mem_cons_self kr hkr hc
    have hlen := nodup_length (n := E.rules.length) (l := q :: s1.done) (List.nodup_cons.2 ⟨hq1, h2.dnd⟩) (fun p hp => by
      rcases List.mem_cons.1 hp with rfl | hp
      · exact hq
      · exact (h2.dok p hp).1)
    rw [List.length_cons] at hlen
    rw [if_neg (by omega)]
    simp
theorem askF_13 {E : Env} (hE : EnvOk E) (hm : (E.rules.length : Int) ≤ E.most) : ∀ (f : Nat) (on : List Int), No13 E on (askF E f on)
  | 0, _, s, q, _, _ => by simp [askF]
  | f + 1, on, s, q, hp, hq => by
    unfold askF
    split
    · simp
    split
    · simp
    rename_i hon
    have hG := askF_good hE f (q :: on)
    have hN := askF_13 hE hm f (q :: on)
    cases hg : s.get q with
    | none => exact workF_13 hE hm hG hN hq (hp.open_ hq hon (fun k h => by rw [hg] at h; cases h)) none
    | some k =>
      simp only
      split
      · simp
      · rename_i hc
        have hp' := hp.open_ hq hon (fun k' h => by rw [hg] at h; injection h with h; exact h ▸ hc)
        have h1 := staleF_13 hG hN k.checked k.asked s hp' (hp.kok q k hq hg).asked
        have h2 := (staleF_good hG k.checked k.asked s hp' (hp.kok q k hq hg).asked).inv
        rcases he : staleF (askF E f (q :: on)) k.checked s k.asked with ⟨s1, r1⟩
        rw [he] at h1 h2
        rcases r1 with e | b
        · intro h; exact h1 (by simpa using h)
        · cases b with
          | true => exact workF_13 hE hm hG hN hq h2 (some k)
          | false => simp
/-- What Ask returns, without a bound. -/
theorem endOf_val {E : Env} (hE : EnvOk E) (hm : (E.rules.length : Int) ≤ E.most) {hist : Hist} {ans : List (Option KeptR)} (hp : PInv E [] ⟨ans, []⟩) (hh : HInv E hist ⟨ans, []⟩) {q : Int} (hq : InQ E q) :
    (∃ v, Val E.rules E.inp q v ∧ endOf (askF E (E.rules.length + 1) [] ⟨ans, []⟩ q) = (v, 0)) ∨ ((∀ f, pv E.rules E.inp f q = none) ∧ endOf (askF E (E.rules.length + 1) [] ⟨ans, []⟩ q) = (0, 8)) := by
  obtain ⟨_, _, h3, h4⟩ := askF_h hE (hist := hist) (E.rules.length + 1) [] (by simp) ⟨ans, []⟩ q hp hh hq (fun p hp => by cases hp)
  have h5 := askF_13 hE hm (E.rules.length + 1) [] ⟨ans, []⟩ q hp hq
  rcases ha : askF E (E.rules.length + 1) [] ⟨ans, []⟩ q with ⟨s1, r1⟩
  rw [ha] at h3 h4 h5
  cases r1 with
  | ok x => obtain ⟨v, ch⟩ := x; exact .inl ⟨v, (h3 v ch rfl).1, rfl⟩
  | error e =>
    rcases h4 e rfl with rfl | ⟨rfl, hn⟩
    · exact absurd rfl h5
    · exact .inr ⟨hn, rfl⟩
theorem pvAll_rng {g : Int → Option Int} {stop : Bool} {p : Int → Prop} : ∀ {l got : List Int}, pvAll g stop l = some got → (∀ a ∈ l, ∀ v, g a = some v → p v) → ∀ v ∈ got, p v
  | [], got, h, _, v, hv => by simp [pvAll] at h; subst h; cases hv
  | q :: r, got, h, ha, v, hv => by
    unfold pvAll at h
    cases hq : g q with
    | none => rw [hq] at h; cases h
    | some x =>
      rw [hq] at h
      simp only at h
      by_cases hs : stop = true ∧ x ≠ 0
      · rw [if_pos hs] at h; injection h with h; subst h
        rw [List.mem_singleton.1 hv]; exact ha q List.mem_cons_self x hq
      · rw [if_neg hs] at h
        obtain ⟨vs, hvs, rfl⟩ := Option.map_eq_some_iff.1 h
        rcases List.mem_cons.1 hv with rfl | hv
        · exact ha q List.mem_cons_self _ hq
        · exact pvAll_rng hvs (fun a h => ha a (List.mem_cons_of_mem _ h)) v hv
theorem pvAll_congr {g g' : Int → Option Int} {stop : Bool} : ∀ (l : List Int), (∀ a ∈ l, g a = g' a) → pvAll g stop l = pvAll g' stop l
  | [], _ => rfl
  | q :: r, h => by
    unfold pvAll
    rw [h q List.mem_cons_self, pvAll_congr r (fun a ha => h a (List.mem_cons_of_mem _ ha))]
/-- A value looks at inputs alone. -/
theorem pv_congr {rules : List QRule} {a b : List Int} (hr : ∀ r ∈ rules, ROk rules.length r) (h : ∀ q : Int, 0 ≤ q → q < rules.length → (rules.getD q.toNat default).kind = 1 → a.getD q.toNat 0 = b.getD q.toNat 0)
    (hv : ∀ q : Int, 0 ≤ q → q < rules.length → (rules.getD q.toNat default).kind = 1 → 0 ≤ a.getD q.toNat 0 ∧ a.getD q.toNat 0 ≤ 1048576) :
    ∀ (f : Nat) (q : Int), 0 ≤ q → q < rules.length → pv rules a f q = pv rules b f q ∧ ∀ v, pv rules a f q = some v → 0 ≤ v ∧ v ≤ 1048576
  | 0, q, _, _ => ⟨rfl, fun v h => by cases h⟩
  | f + 1, q, h0, h1 => by
    have hmem : rules.getD q.toNat default ∈ rules := by
      have hlt : q.toNat < rules.length := by omega
      rw [List.getD_eq_getElem?_getD, List.getElem?_eq_getElem hlt]
      exact List.getElem_mem hlt
    have hrr := hr _ hmem
    by_cases hk : (rules.getD q.toNat default).kind = 1
    · rw [pv_input hk, pv_input hk]
      exact ⟨by rw [h q h0 h1 hk], fun v hv' => by injection hv' with hv'; rw [← hv']; exact hv q h0 h1 hk⟩
    · rw [pv_rule hk, pv_rule hk]
      generalize rules.getD q.toNat default = r at *
      have ih := pv_congr hr h hv f
      have key : pvRule (pv rules a f) r = pvRule (pv rules b f) r ∧ ∀ x, pvRule (pv rules a f) r = some x → 0 ≤ x.1 ∧ x.1 ≤ 1048576 := by
        unfold pvRule
        by_cases h3 : r.kind = 3
        · rw [if_pos h3, if_pos h3]
          let E : Env := ⟨rules, [], [], 0, 0⟩
          have hq0 := (pick_mem (E := E) (v := 0) hrr h3 (by omega)).2
          rw [← (ih _ hq0.1 hq0.2).1]
          cases hg : pv rules a f (r.asks.getD 0 0) with
          | none => exact ⟨rfl, fun x h => by cases h⟩
          | some v =>
            have hqp := (pick_mem (E := E) hrr h3 ((ih _ hq0.1 hq0.2).2 v hg).1).1
            simp only
            rw [← (ih _ hqp.1 hqp.2).1]
            refine ⟨rfl, fun x hx => ?_⟩
            obtain ⟨u, hu, he⟩ := Option.map_eq_some_iff.1 hx
            rw [← he]
            exact (ih _ hqp.1 hqp.2).2 u hu
        · rw [if_neg h3, if_neg h3, ← pvAll_congr r.asks (fun x hx => (ih x (hrr.asks x hx).1 (hrr.asks x hx).2).1)]
          refine ⟨rfl, fun x hx => ?_⟩
          obtain ⟨got, hgot, he⟩ := Option.map_eq_some_iff.1 hx
          rw [← he]
          exact answerOf_range hrr (pvAll_rng hgot (fun x hx => (ih x (hrr.asks x hx).1 (hrr.asks x hx).2).2))
      rw [← key.1]
      refine ⟨rfl, fun v hv' => ?_⟩
      obtain ⟨x, hx, he⟩ := Option.map_eq_some_iff.1 hv'
      rw [← he]
      exact key.2 x hx
/-- The inputs as they are (0 where there is none). -/
def inputsF (E : Env) : List Int := (List.range E.rules.length).map fun i => if (E.rules.getD i default).kind = 1 then E.inp.getD i 0 else 0
theorem inputsF_length (E : Env) : (inputsF E).length = E.rules.length := by simp [inputsF]
theorem inputsF_get (E : Env) {i : Nat} (h : i < E.rules.length) : (inputsF E).getD i 0 = if (E.rules.getD i default).kind = 1 then E.inp.getD i 0 else 0 := by
  unfold inputsF
  rw [List.getD_eq_getElem?_getD, List.getElem?_map, List.getElem?_range h]; rfl
theorem SInv.values {rs : List QRule} {n : Int} {S : State} (h : SInv rs n S) : badV rs (inputsF S.1) = false ∧ (inputsF S.1).length = rs.length := by
  refine ⟨?_, by rw [inputsF_length, h.rules]⟩
  unfold badV
  rw [List.any_eq_false]
  intro i hi
  have hi := List.mem_range.1 hi
  have hir : i < S.1.rules.length := by rw [h.rules]; exact hi
  unfold badAt
  rw [inputsF_get _ hir, h.rules]
  by_cases hk : (rs.getD i default).kind = 1
  · have := h.ok.ival (i : Int) (by omega) (by show (i : Int) < S.1.rules.length; omega) (by show (S.1.rules.getD (i : Int).toNat default).kind = 1; rw [h.rules, Int.toNat_natCast]; exact hk)
    rw [Int.toNat_natCast] at this
    have h0 : 0 ≤ S.1.inp.getD i 0 ∧ S.1.inp.getD i 0 ≤ 1048576 := this
    rw [if_pos hk, decide_eq_false (show ¬ S.1.inp.getD i 0 < 0 by omega), decide_eq_false (show ¬ 1048576 < S.1.inp.getD i 0 by omega)]
    simp
  · rw [beq_eq_false_iff_ne.2 hk, Bool.false_and]
    decide
theorem anew_same {rs : List QRule} {n : Int} {S : State} (h : SInv rs n S) (hc : (check rs).2 = 0) {q : Int} (h0 : 0 ≤ q) (h1 : q < rs.length) :
    endOf (askF (Env.bound S.1 1073741824) (S.1.rules.length + 1) [] ⟨S.2, []⟩ q) = plainF rs (inputsF S.1) q := by
  obtain ⟨hb, hl⟩ := h.values
  obtain ⟨h200, hrok⟩ := check_ok hc
  have hE := h.env (m := 1073741824) (by decide) (by decide)
  obtain ⟨hist, hh⟩ := h.his
  have hrl : S.1.rules.length = rs.length := by rw [h.rules]
  have a1 := endOf_val hE (by show (S.1.rules.length : Int) ≤ 1073741824; omega) (h.pinv (by decide)) (HInv.bound (m' := 1073741824) hh rfl) (q := q) ⟨h0, by show q < S.1.rules.length; omega⟩
  have hE2 : EnvOk (envP rs (inputsF S.1) rs.length) := plain_env hc hl hb
  have a2 := endOf_val hE2 (Int.le_refl _) (PInv.fresh rs (inputsF S.1) rs.length (by omega)) (HInv.fresh rs.length) (q := q) ⟨h0, h1⟩
  have hpl : plainF rs (inputsF S.1) q = endOf (askF (envP rs (inputsF S.1) rs.length) (rs.length + 1) [] ⟨List.replicate rs.length none, []⟩ q) := by
    unfold plainF
    rw [if_neg (fun h => h hc), if_neg (fun h => h hl), if_neg (by rw [hb]; decide), if_neg (by omega)]
  have hin : ∀ p : Int, 0 ≤ p → p < rs.length → (rs.getD p.toNat default).kind = 1 → S.1.inp.getD p.toNat 0 = (inputsF S.1).getD p.toNat 0 := fun p p0 p1 hk => by
    rw [inputsF_get _ (by rw [h.rules]; omega), h.rules, if_pos hk]
  have hcong := fun f => pv_congr (a := S.1.inp) (b := inputsF S.1) hrok hin (fun p p0 p1 hk => h.ok.ival p p0 (by show p < S.1.rules.length; omega) (by show (S.1.rules.getD p.toNat default).kind = 1; rw [h.rules]; exact hk)) f q h0 h1
  have e1 : (Env.bound S.1 1073741824).rules = rs := h.rules
  have e2 : (Env.bound S.1 1073741824).inp = S.1.inp := rfl
  rw [e1, e2] at a1
  rw [hpl]
  have hfl : S.1.rules.length + 1 = rs.length + 1 := by rw [hrl]
  rw [hfl]
  have ep : (envP rs (inputsF S.1) rs.length).rules = rs := rfl
  have ei : (envP rs (inputsF S.1) rs.length).inp = inputsF S.1 := rfl
  rw [ep, ei] at a2
  rcases a1 with ⟨v, ⟨f, hv⟩, r1⟩ | ⟨hn, r1⟩
  · rcases a2 with ⟨v', ⟨f', hv'⟩, r2⟩ | ⟨hn', r2⟩
    · rw [(hcong f).1] at hv
      rw [r1, r2, pv_unique hv hv']
    · rw [(hcong f).1, hn' f] at hv; cases hv
  · rcases a2 with ⟨v', ⟨f', hv'⟩, r2⟩ | ⟨hn', r2⟩
    · rw [← (hcong f').1, hn f'] at hv'; cases hv'
    · rw [r1, r2]
end Go.Proofs.QW

/-
  Forget of an engine that lives, and Ask with a bound below 0; what a call of Ask leaves, whatever is asked. Condition: the engine lies.
-/
namespace Go.Proofs.QW
open Go.RowKit Go.Proofs.KL Go.Proofs.QM
set_option maxRecDepth 100000
set_option linter.unusedSimpArgs false
set_option linter.unusedVariables false

set_option maxHeartbeats 2000000 in
/-- Ask with a bound below 0. -/
theorem Ask_neg {E : Env} (w : World) (X : Nat → Prop) (eb ib mb : Nat) (ans : List (Option KeptR)) (q most : Int) (he : EngAt w X eb ib mb E ans) (h200 : E.rules.length ≤ 200) (hq : isErr E.rules.length q = 0) (hneg : most < 0) :
    Calls Tryd.prog 18 #[.pointer (some ⟨eb, 0, none⟩), .int .i64 q, .int .i64 most] w fun e w' => e = .returned (.tuple #[.int .i64 0, .slice none 0 0, .int .i64 2]) ∧ Keeps Nob w w' := by
  obtain ⟨A, cc, cc', b0, b1, b2, b3, hrx⟩ := he.cells
  obtain ⟨i3, hi3, hs3⟩ := infoS3
  obtain ⟨i23, hi23, hs23⟩ := info23
  obtain ⟨i25, hi25, hs25⟩ := info25
  have HI := Lib.hid (And.intro (And.intro hi3 hs3) (And.intro (And.intro hi23 hs23) (And.intro hi25 hs25)))
  have hE0 := hq
  have HE0 := Lib.hid hE0
  have hmf : ∀ (fn : Fn) (first cap : Array Value) (w : World), (Instr.makeFunc fn first cap).run Tryd.prog w = .ok (.func fn first cap) w := fun _ _ _ _ => rfl
  clear hi3 hs3 hi23 hs23 hi25 hs25 hE0 hrx he b1 b3 hq
  go_enter_defers Tryd.func18, Tryd.ntmps18
  go_wp2_with (first
    | ((with_reducible refine at_dst (N := 6) rfl ?_); go_must (refine ev_alloc rfl rfl zero3 rfl ?_; intro g6 w1 hg6 hl6 hb6 hk1); have Hb6 := Lib.hid hb6; clear hb6; (try simp only [Act.put, List.setIfInBounds_toArray, List.set_cons_zero, List.set_cons_succ]))
    | ((with_reducible refine at_dst (N := 7) rfl ?_); go_must (refine ev_alloc rfl rfl zero23 rfl ?_; intro g7 w2 hg7 hl7 hb7 hk2); have Hb7 := Lib.hid hb7; clear hb7; (try simp only [Act.put, List.setIfInBounds_toArray, List.set_cons_zero, List.set_cons_succ]))
    | ((with_reducible refine at_dst (N := 8) rfl ?_); go_must (refine ev_alloc rfl rfl zero25 rfl ?_; intro g8 w3 hg8 hl8 hb8 hk3); have Hb8 := Lib.hid hb8; clear hb8
       have b0 := hk3.cell (hk2.cell (hk1.cell b0 id) id) id
       have b2 := hk3.cell (hk2.cell (hk1.cell b2 id) id) id
       (try simp only [Act.put, List.setIfInBounds_toArray, List.set_cons_zero, List.set_cons_succ]))
    | (go_at_call 38; go_must (refine (is_some eb mb q A E.rules.length cc w3 b2 b0 h200).mono ?_; rintro e w' ⟨rfl, rfl⟩; rw [HE0.out]))
    | ((with_reducible refine at_store (t := 3) rfl ?_); go_must (refine ev_store (cs' := #[.int .i64 0]) rfl rfl rfl rfl rfl rfl HI.out.1.1 HI.out.1.2 rfl (hk3.blk (hk2.blk Hb6.out id) id) (Nat.le_of_ble_eq_true rfl) rfl ?_; intro w4 hb4 hk4); (try simp only [Act.put, List.setIfInBounds_toArray, List.set_cons_zero, List.set_cons_succ]))
    | ((with_reducible refine at_store (t := 23) rfl ?_); go_must (refine ev_store (cs' := #[.slice none 0 0]) rfl rfl rfl rfl rfl rfl HI.out.2.1.1 HI.out.2.1.2 rfl (hk4.blk (hk3.blk Hb7.out id) (by show g7 ≠ g6; omega)) (Nat.le_of_ble_eq_true rfl) rfl ?_; intro w5 hb5 hk5); (try simp only [Act.put, List.setIfInBounds_toArray, List.set_cons_zero, List.set_cons_succ]))
    | ((with_reducible refine at_store (t := 25) rfl ?_); go_must (refine ev_store (cs' := #[.int .i64 2]) rfl rfl rfl rfl rfl rfl HI.out.2.2.1 HI.out.2.2.2 rfl (hk5.blk (hk4.blk Hb8.out (by show g8 ≠ g6; have := hk2.size; omega)) (by show g8 ≠ g7; omega)) (Nat.le_of_ble_eq_true rfl) rfl ?_; intro w6 hb6' hk6); (try simp only [Act.put, List.setIfInBounds_toArray, List.set_cons_zero, List.set_cons_succ])))
  have z1 := hk1.size
  have z2 := hk2.size
  have z3 := hk3.size
  have r6 : w6.cell? ⟨g6, 0, none⟩ = some (.int .i64 0) := (blk_cell (hk6.blk (hk5.blk hb4 (by show g6 ≠ g7; omega)) (by show g6 ≠ g8; omega)) 0).trans rfl
  have r7 : w6.cell? ⟨g7, 0, none⟩ = some (.slice none 0 0) := (blk_cell (hk6.blk hb5 (by show g7 ≠ g8; omega)) 0).trans rfl
  have r8 : w6.cell? ⟨g8, 0, none⟩ = some (.int .i64 2) := (blk_cell hb6' 0).trans rfl
  (try simp only [Exit.inBlock, Exit.then])
  refine ⟨_, results_cells3 (x := .int .i64 0) (y := .slice none 0 0) (z := .int .i64 2) rfl _ _ rfl rfl rfl (by go_simp) (by go_simp) (by go_simp), rfl, ?_⟩
  exact (((((hk1.trans hk2 (fun _ _ h => h)).trans hk3 (fun _ _ h => h)).own hk4 (by omega)).own hk5 (by omega)).own hk6 (by omega))
/-- The map loses a question. -/
theorem AnsX.drop {w w' : World} {X : Nat → Prop} {mb n : Nat} {ans : List (Option KeptR)} {es es' : Array MapEntry} {c c' : Nat} {q : Int} (hm : w.heap[mb]? = some (.map es c)) (h : AnsX w X mb n ans) (hb : w'.heap[mb]? = some (.map es' c')) (hkey : IntKeyed es'.toList) (hk : Keeps (· = mb) w w') (xm : ¬ X mb) (hq : 0 ≤ q)
    (hl : ∀ q', mlook es'.toList q' = if q' = q then none else mlook es.toList q') : AnsX w' X mb n (ans.set q.toNat none) := by
  obtain ⟨es0, c0, h0, _, hout, hans⟩ := h
  obtain ⟨rfl, rfl⟩ : es0 = es ∧ c0 = c := by have := h0.symm.trans hm; injection this with this; injection this with h1 h2; exact ⟨h1, h2⟩
  refine ⟨es', c', hb, hkey, fun p hp => ?_, fun p p0 p1 => ?_⟩
  · rw [hl]; split
    · rfl
    · exact hout p hp
  · rw [hl, getD_set_none]
    by_cases e : p = q
    · subst e; rw [if_pos rfl, if_pos rfl]
    · rw [if_neg e, if_neg (by omega)]
      have := hans p p0 p1
      split at this
      · obtain ⟨v, hv, hx⟩ := this
        exact ⟨v, hv, hx.keep hk (fun b _ hx e => xm (e ▸ hx)) (fun _ _ h => h)⟩
      · exact this
theorem EngAt.dropped {w w' : World} {X : Nat → Prop} {eb ib mb : Nat} {E : Env} {ans : List (Option KeptR)} {es es' : Array MapEntry} {c c' : Nat} {q : Int} (h : EngAt w X eb ib mb E ans) (hm : w.heap[mb]? = some (.map es c)) (hb : w'.heap[mb]? = some (.map es' c')) (hkey : IntKeyed es'.toList) (hk : Keeps (· = mb) w w') (hq : 0 ≤ q)
    (hl : ∀ q', mlook es'.toList q' = if q' = q then none else mlook es.toList q') : EngAt w' X eb ib mb E (ans.set q.toNat none) := by
  obtain ⟨⟨rv, cc, heb, hrx⟩, ⟨cs, hib, hci⟩, hans, xe, xi, xm⟩ := h
  have n1 : eb ≠ mb := fun e => by subst e; have := heb.symm.trans hm; injection this with this; cases this
  have n2 : ib ≠ mb := fun e => by subst e; have := hib.symm.trans hm; injection this with this; cases this
  exact ⟨⟨rv, cc, hk.blk heb n1, hrx.keep hk (fun b _ hx e => xm (e ▸ hx)) (fun _ _ h => h)⟩, ⟨cs, hk.blk hib n2, hci⟩, AnsX.drop hm hans hb hkey hk xm hq hl, xe, xi, xm⟩
set_option maxHeartbeats 2000000 in
/-- FORGET. -/
theorem Forget_any (X : Nat → Prop) (eb ib mb : Nat) (E : Env) (ans : List (Option KeptR)) (q : Int) (w : World) (h : EngAt w X eb ib mb E ans) (hl : E.rules.length ≤ 200) :
    Calls Tryd.prog 30 #[.pointer (some ⟨eb, 0, none⟩), .int .i64 q] w fun e w' => e = .returned (.int .i64 (forgetF E ans q).2) ∧ Keeps (· = mb) w w' ∧ EngAt w' X eb ib mb E (forgetF E ans q).1 := by
  have HE := Lib.hid h
  obtain ⟨R, hR⟩ : ∃ r, forgetF E ans q = r := ⟨_, rfl⟩
  rw [hR]
  unfold forgetF at hR
  obtain ⟨⟨rv, c, hb, hr⟩, ⟨cs, hib, hinp⟩, ⟨es, cl, hmb, hkey, hout, hans⟩, _, _, _⟩ := h
  have hr0 := hr
  obtain ⟨A, cc, rfl, hcc, hrx⟩ := hr0
  have e0 := (blk_cell hb 0).trans rfl
  have e2 := (blk_cell hb 2).trans rfl
  have Hr := Lib.hid hr
  have Hmb := Lib.hid hmb
  have Hkey := Lib.hid hkey
  have Hans := Lib.hid hans
  clear hr hb hrx hmb hinp hib hkey hans hout
  by_cases hq : isErr E.rules.length q ≠ 0
  · have hE : isErr E.rules.length q = 5 := by unfold isErr at hq ⊢; split at hq; rw [if_pos (by assumption)]; exact absurd rfl hq
    rw [if_pos hq] at hR
    have HR := Lib.hid hR
    have HEr := Lib.hid hE
    clear hE hq hR
    go_enter Tryd.func30, Tryd.ntmps30
    go_wp2_with (go_at_call 38; go_must (refine (is_some _ _ _ _ _ _ _ (by assumption) (by assumption) hl).mono ?_; rintro e w' ⟨rfl, rfl⟩; rw [HEr.out]))
    go_ret
    rw [← HR.out]
    exact ⟨rfl, Keeps.refl _ _, HE.out⟩
  · have hE : isErr E.rules.length q = 0 := by omega
    obtain ⟨hq0, hq1⟩ := isErr_in hq
    rw [if_neg hq] at hR
    have HEr := Lib.hid hE
    clear hE hq
    have hin : (E.rules.getD q.toNat default).kind = (E.rule q).kind := rfl
    by_cases hk : (E.rule q).kind = 1
    · rw [if_pos hk] at hR
      have HR := Lib.hid hR
      have hkb : ((E.rule q).kind == 1) = true := by rw [hk]; rfl
      have HI := Lib.hid (And.intro hin hkb)
      clear hin hkb hk hR
      go_enter Tryd.func30, Tryd.ntmps30
      go_wp2_with (first | (go_at_call 38; go_must (refine (is_some _ _ _ _ _ _ _ (by assumption) (by assumption) hl).mono ?_; rintro e w' ⟨rfl, rfl⟩; rw [HEr.out])) | (go_at_call 37; go_must (refine (input_any _ _ E.rules X _ _ (by assumption) Hr.out hq0 hq1 hl).mono ?_; rintro e w' ⟨rfl, rfl⟩; rw [HI.out.1, HI.out.2])))
      go_ret
      rw [← HR.out]
      exact ⟨rfl, Keeps.refl _ _, HE.out⟩
    · rw [if_neg hk] at hR
      have hkb : ((E.rule q).kind == 1) = false := by simpa using hk
      have HI := Lib.hid (And.intro hin hkb)
      obtain ⟨i85, hi85, hs85⟩ := info85
      obtain ⟨u, hv, ⟨uA, uc, rfl, _, _⟩, hsm⟩ := AnsX.get hq0 hq1 Hans.out
      obtain ⟨was, hwas⟩ : ∃ x, ans.getD q.toNat none = x := ⟨_, rfl⟩
      rw [hwas] at hR hv hsm
      generalize hkd : was.getD k0 = k at *
      have Hv := Lib.hid hv
      have Hs85 := Lib.hid hs85
      have Hi85 := Lib.hid hi85
      have HR := Lib.hid hR
      clear hv hs85 hi85 hR hin hkb hk hkd hwas
      cases was with
      | none =>
        have Hsm := Lib.hid (show (mlook es.toList q).isSome = false from hsm)
        have HR2 := Lib.hid (show ((ans, 8) : List (Option KeptR) × Int) = R from HR.out)
        clear hsm HR
        go_enter Tryd.func30, Tryd.ntmps30
        go_wp2_with (first
          | (go_at_call 38; go_must (refine (is_some _ _ _ _ _ _ _ (by assumption) (by assumption) hl).mono ?_; rintro e w' ⟨rfl, rfl⟩; rw [HEr.out]))
          | (go_at_call 37; go_must (refine (input_any _ _ E.rules X _ _ (by assumption) Hr.out hq0 hq1 hl).mono ?_; rintro e w' ⟨rfl, rfl⟩; rw [HI.out.1, HI.out.2]))
          | ((with_reducible refine at_dst (N := 25) rfl ?_); go_must (refine ev_lookup_ok rfl rfl Tryd.underlying61 Tryd.underlying3 zero85 rfl rfl Hmb.out Hkey.out ?_; rw [Hv.out, Hsm.out]); (try simp only [Act.put, List.setIfInBounds_toArray, List.set_cons_zero, List.set_cons_succ]))
          | ((with_reducible refine at_dst (N := 6) rfl ?_); go_must (refine ev_alloc rfl rfl zero85 rfl ?_; intro g1 w1 hg1 hl1 hb1 hk1); have Hb1 := Lib.hid hb1; clear hb1; (try simp only [Act.put, List.setIfInBounds_toArray, List.set_cons_zero, List.set_cons_succ]))
          | ((with_reducible refine at_store (t := 85) rfl ?_); go_must (refine ev_store (cs' := #[.int .i64 k.value, .slice uA k.asked.length uc, .int .i64 k.checked, .int .i64 k.changed]) rfl rfl rfl rfl rfl rfl Hi85.out Hs85.out rfl Hb1.out (Nat.le_of_ble_eq_true rfl) rfl ?_; intro w2 hb2 hk2); (try simp only [Act.put, List.setIfInBounds_toArray, List.set_cons_zero, List.set_cons_succ])))
        go_ret
        rw [← HR2.out]
        have hkk : Keeps Nob w w2 := hk1.own hk2 hg1
        exact ⟨rfl, hkk.mono (fun _ _ h => h.elim), HE.out.keep hkk id id id (fun _ _ _ => id) (fun _ _ => Iff.rfl)⟩
      | some kk =>
        have Hsm := Lib.hid (show (mlook es.toList q).isSome = true from hsm)
        have HR2 := Lib.hid (show ((ans.set q.toNat none, 0) : List (Option KeptR) × Int) = R from HR.out)
        clear hsm HR
        go_enter Tryd.func30, Tryd.ntmps30
        go_wp2_with (first
          | (go_at_call 38; go_must (refine (is_some _ _ _ _ _ _ _ (by assumption) (by assumption) hl).mono ?_; rintro e w' ⟨rfl, rfl⟩; rw [HEr.out]))
          | (go_at_call 37; go_must (refine (input_any _ _ E.rules X _ _ (by assumption) Hr.out hq0 hq1 hl).mono ?_; rintro e w' ⟨rfl, rfl⟩; rw [HI.out.1, HI.out.2]))
          | ((with_reducible refine at_dst (N := 25) rfl ?_); go_must (refine ev_lookup_ok rfl rfl Tryd.underlying61 Tryd.underlying3 zero85 rfl rfl Hmb.out Hkey.out ?_; rw [Hv.out, Hsm.out]); (try simp only [Act.put, List.setIfInBounds_toArray, List.set_cons_zero, List.set_cons_succ]))
          | ((with_reducible refine at_dst (N := 6) rfl ?_); go_must (refine ev_alloc rfl rfl zero85 rfl ?_; intro g1 w1 hg1 hl1 hb1 hk1); have Hb1 := Lib.hid hb1; clear hb1; (try simp only [Act.put, List.setIfInBounds_toArray, List.set_cons_zero, List.set_cons_succ]))
          | ((with_reducible refine at_store (t := 85) rfl ?_); go_must (refine ev_store (cs' := #[.int .i64 k.value, .slice uA k.asked.length uc, .int .i64 k.checked, .int .i64 k.changed]) rfl rfl rfl rfl rfl rfl Hi85.out Hs85.out rfl Hb1.out (Nat.le_of_ble_eq_true rfl) rfl ?_; intro w2 hb2 hk2)
             have hkk : Keeps Nob w w2 := hk1.own hk2 hg1
             have HKK := Lib.hid hkk
             have e2 := hkk.cell e2 id
             have Hmb2 := Lib.hid (hkk.blk Hmb.out id)
             clear hkk
             (try simp only [Act.put, List.setIfInBounds_toArray, List.set_cons_zero, List.set_cons_succ]))
          | (refine at_delete rfl ?_; go_must (refine ev_delete (q := q) rfl rfl rfl Tryd.underlying61 Tryd.underlying3 rfl rfl Hmb2.out Hkey.out ?_; intro es3 c3 w3 hb3 hkey3 hl3 hk3); have Hl3 := Lib.hid hl3; clear hl3; (try simp only [Act.put, List.setIfInBounds_toArray, List.set_cons_zero, List.set_cons_succ])))
        go_ret
        rw [← HR2.out]
        have hE2 := HE.out.keep HKK.out id id id (fun _ _ _ => id) (fun _ _ => Iff.rfl)
        exact ⟨rfl, (HKK.out.mono (fun _ _ h => h.elim)).trans hk3 (fun _ _ h => h), hE2.dropped Hmb2.out hb3 hkey3 hk3 hq0 Hl3.out⟩
end Go.Proofs.QW

/-
  A call of Ask, whatever is asked, in memory. Condition: the engine lies and is in order.
-/
namespace Go.Proofs.QW
open Go.RowKit Go.Proofs.KL Go.Proofs.QM
set_option maxRecDepth 100000
set_option linter.unusedSimpArgs false
set_option linter.unusedVariables false

/-- What Ask leaves and returns: what is kept, what was worked out, the value and the error. -/
structure AskRes where
  ans : List (Option KeptR)
  worked : List Int
  v : Int
  e : Int
def askR (E : Env) (ans : List (Option KeptR)) (q most : Int) : AskRes :=
  if isErr E.rules.length q ≠ 0 then ⟨ans, [], 0, 5⟩
  else if most < 0 then ⟨ans, [], 0, 2⟩
  else ⟨(askF (Env.bound E most) (E.rules.length + 1) [] ⟨ans, []⟩ q).1.ans, (askF (Env.bound E most) (E.rules.length + 1) [] ⟨ans, []⟩ q).1.done, (endOf (askF (Env.bound E most) (E.rules.length + 1) [] ⟨ans, []⟩ q)).1, (endOf (askF (Env.bound E most) (E.rules.length + 1) [] ⟨ans, []⟩ q)).2⟩
theorem askR_ans (E : Env) (ans : List (Option KeptR)) (q most : Int) : (askR E ans q most).ans = askS E ans q most := by
  unfold askR askS
  by_cases h : isErr E.rules.length q ≠ 0
  · rw [if_pos h, if_pos (.inl h)]
  · rw [if_neg h]
    by_cases hm : most < 0
    · rw [if_pos hm, if_pos (.inr hm)]
    · rw [if_neg hm, if_neg (by simp only [not_or]; exact ⟨h, hm⟩)]
theorem EngAt.bound {w : World} {X : Nat → Prop} {eb ib mb : Nat} {E : Env} {ans : List (Option KeptR)} (h : EngAt w X eb ib mb E ans) (m : Int) : EngAt w X eb ib mb (Env.bound E m) ans := ⟨h.blk, h.inp, h.ans, h.xe, h.xi, h.xm⟩
theorem EngAt.unbound {w : World} {X : Nat → Prop} {eb ib mb : Nat} {E : Env} {ans : List (Option KeptR)} {m : Int} (h : EngAt w X eb ib mb (Env.bound E m) ans) : EngAt w X eb ib mb E ans := ⟨h.blk, h.inp, h.ans, h.xe, h.xi, h.xm⟩
theorem setF_bound (E : Env) (q v m : Int) : setF (Env.bound E m) q v = (Env.bound (setF E q v).1 m, (setF E q v).2) := by
  unfold setF
  show (if isErr E.rules.length q ≠ 0 then _ else _) = _
  by_cases h1 : isErr E.rules.length q ≠ 0
  · rw [if_pos h1, if_pos h1]
  · rw [if_neg h1, if_neg h1]
    show (if (E.rule q).kind ≠ 1 ∨ v < 0 ∨ 1048576 < v then _ else _) = _
    by_cases h2 : (E.rule q).kind ≠ 1 ∨ v < 0 ∨ 1048576 < v
    · rw [if_pos h2, if_pos h2]
    · rw [if_neg h2, if_neg h2]
      show (if E.inp.getD q.toNat 0 ≠ v then _ else _) = _
      by_cases h3 : E.inp.getD q.toNat 0 ≠ v
      · rw [if_pos h3, if_pos h3]; rfl
      · rw [if_neg h3, if_neg h3]
def AskOut (w : World) (X : Nat → Prop) (eb ib mb : Nat) (E : Env) (r : AskRes) (e : Ending) (w' : World) : Prop :=
  ∃ X' wl, e = .returned (.tuple #[.int .i64 r.v, wl, .int .i64 r.e]) ∧ (∀ b, b < w.heap.size → (X' b ↔ X b)) ∧ (∀ k, X' k → k < w'.heap.size) ∧ Keeps (· = mb) w w' ∧ EngAt w' X' eb ib mb E r.ans ∧
    w'.ownsRow 0 3 1 wl r.worked.length (r.worked.map (Value.int .i64)) ∧ ∀ b, wl.ownBlock = some b → w.heap.size ≤ b ∧ ¬ X' b
theorem EngAt.after {w w' : World} {X : Nat → Prop} {eb ib mb : Nat} {E : Env} {ans : List (Option KeptR)} (h : EngAt w X eb ib mb E ans) (hk : Keeps Nob w w') : EngAt w' X eb ib mb E ans := h.keep hk id id id (fun _ _ _ => id) (fun _ _ => Iff.rfl)
/-- ASK, whatever is asked. -/
theorem AskR_any {rs : List QRule} {n : Int} {E : Env} {ans : List (Option KeptR)} (hS : SInv rs n (E, ans)) (w : World) (X : Nat → Prop) (eb ib mb : Nat) (q most : Int) (hm : most ≤ 9223372036854775807) (he : EngAt w X eb ib mb E ans) (hxl : ∀ k, X k → k < w.heap.size) :
    Calls Tryd.prog 18 #[.pointer (some ⟨eb, 0, none⟩), .int .i64 q, .int .i64 most] w (AskOut w X eb ib mb E (askR E ans q most)) := by
  have h200 : E.rules.length ≤ 200 := hS.ok.len
  unfold askR
  by_cases hq : isErr E.rules.length q ≠ 0
  · rw [if_pos hq]
    have hq' : q < 0 ∨ (E.rules.length : Int) ≤ q := by unfold isErr at hq; split at hq; assumption; exact absurd rfl hq
    refine (Ask_none w X eb ib mb ans q most he h200 hq').mono ?_
    rintro e w' ⟨rfl, hk⟩
    exact ⟨X, _, rfl, fun _ _ => Iff.rfl, fun k hx => Nat.lt_of_lt_of_le (hxl k hx) hk.size, hk.mono (fun _ _ h => h.elim), he.after hk, ⟨rfl, .inl ⟨rfl, rfl⟩⟩, fun b h => by cases h⟩
  · rw [if_neg hq]
    have hq0 : isErr E.rules.length q = 0 := by omega
    by_cases hneg : most < 0
    · rw [if_pos hneg]
      refine (Ask_neg w X eb ib mb ans q most he h200 hq0 hneg).mono ?_
      rintro e w' ⟨rfl, hk⟩
      exact ⟨X, _, rfl, fun _ _ => Iff.rfl, fun k hx => Nat.lt_of_lt_of_le (hxl k hx) hk.size, hk.mono (fun _ _ h => h.elim), he.after hk, ⟨rfl, .inl ⟨rfl, rfl⟩⟩, fun b h => by cases h⟩
    · rw [if_neg hneg]
      have h := Ask_any (hS.env (m := most) (by omega) hm) w X eb ib mb ans q (he.bound most) hxl (hS.pinv (by omega)) (isErr_in hq)
      refine h.mono ?_
      rintro e w' ⟨X', wl, h1, h2, h3, h4, h5, h6, h7⟩
      exact ⟨X', wl, h1, h2, h3, h4, h5.unbound, h6, h7⟩
end Go.Proofs.QW

/-
  An engine behind calls (played), in memory: it comes to the model. Condition: rules and calls lie, and the table of kinds is as laid.
-/
namespace Go.Proofs.QW
open Go.RowKit Go.Proofs.KL Go.Proofs.QM
set_option maxRecDepth 100000
set_option linter.unusedSimpArgs false
set_option linter.unusedVariables false

/-- A slice of calls. -/
def ActsX (w : World) (X : Nat → Prop) (v : Value) (acts : List ActR) : Prop :=
  ∃ A c, v = .slice A acts.length c ∧ acts.length ≤ c ∧ ∀ i, i < acts.length → ∃ b o, A = some ⟨b, o, none⟩ ∧ X b ∧ w.cell? ⟨b, o + i * 3, none⟩ = some (.int .u8 (acts.getD i default).kind) ∧
    w.cell? ⟨b, o + i * 3 + 1, none⟩ = some (.int .i64 (acts.getD i default).q) ∧ w.cell? ⟨b, o + i * 3 + 2, none⟩ = some (.int .i64 (acts.getD i default).v) ∧
    (0 ≤ (acts.getD i default).kind ∧ (acts.getD i default).kind ≤ 255) ∧ (acts.getD i default).v ≤ 9223372036854775807
theorem ActsX.keep {M X X' : Nat → Prop} {w w' : World} {v : Value} {acts : List ActR} (h : ActsX w X v acts) (hk : Keeps M w w') (hX : ∀ b, b < w.heap.size → X b → ¬ M b) (hX' : ∀ b, b < w.heap.size → X b → X' b) : ActsX w' X' v acts := by
  obtain ⟨A, c, rfl, hc, hx⟩ := h
  refine ⟨A, c, rfl, hc, fun i hi => ?_⟩
  obtain ⟨b, o, rfl, hb, h0, h1, h2, h3⟩ := hx i hi
  have hlt := World.block_lt_of_cell? _ _ h0
  have hn := hX b hlt hb
  exact ⟨b, o, rfl, hX' b hlt hb, hk.cell h0 hn, hk.cell h1 hn, hk.cell h2 hn, h3⟩
def playedTo (rs : List QRule) (acts : List ActR) (k : Nat) : State := (acts.take k).foldl stepA (fresh rs 0, List.replicate rs.length none)
def playedF (rs : List QRule) (acts : List ActR) : State := playedTo rs acts 60
theorem playedTo_succ {rs : List QRule} {acts : List ActR} {k : Nat} (h : k < acts.length) : playedTo rs acts (k + 1) = stepA (playedTo rs acts k) (acts.getD k default) := by
  unfold playedTo
  rw [List.take_succ_eq_append_getElem h, List.foldl_append]
  simp [List.getD_eq_getElem?_getD, h]
theorem playedTo_inv {rs : List QRule} {acts : List ActR} (hc : (check rs).2 = 0) (hv : ∀ a ∈ acts, a.v ≤ 9223372036854775807) : ∀ k : Nat, k ≤ 1000000 → SInv rs k (playedTo rs acts k)
  | 0, _ => by have := SInv.start hc; unfold playedTo; simpa using this
  | k + 1, h => by
    have ih := playedTo_inv hc hv k (by omega)
    rcases Nat.lt_or_ge k acts.length with hk | hk
    · rw [playedTo_succ hk]
      have hm : acts.getD k default ∈ acts := by rw [List.getD_eq_getElem?_getD, List.getElem?_eq_getElem hk]; exact List.getElem_mem hk
      have := ih.step (acts.getD k default) (by omega) (hv _ hm)
      rwa [show ((k + 1 : Nat) : Int) = (k : Int) + 1 by omega]
    · have : playedTo rs acts (k + 1) = playedTo rs acts k := by unfold playedTo; rw [List.take_of_length_le (by omega), List.take_of_length_le hk]
      rw [this]
      exact ⟨ih.rules, ih.ok, by have := ih.rev; omega, ih.inv, ih.his⟩
theorem playedTo_end {rs : List QRule} {acts : List ActR} : playedTo rs acts acts.length = playedTo rs acts 60 ∨ 60 < acts.length := by
  rcases Nat.lt_or_ge 60 acts.length with h | h
  · exact .inr h
  · left; unfold playedTo; rw [List.take_of_length_le (Nat.le_refl _), List.take_of_length_le h]
theorem zero56 : (Tryd.prog.info? 56).map (·.zero) = some (some (.agg #[.int .u8 0, .int .i64 0, .int .i64 0])) := by kernel_rfl
theorem info56 : ∃ i, Tryd.prog.info? 56 = some i ∧ i.size = 3 := by
  have h : (Tryd.prog.info? 56).map (·.size) = some 3 := by kernel_rfl
  obtain ⟨i, hi, hs⟩ := Option.map_eq_some_iff.1 h
  exact ⟨i, hi, hs⟩
/-- The state of the loop. -/
structure Played (w wr : World) (X : Nat → Prop) (eb ib mb : Nat) (rs : List QRule) (acts : List ActR) (k : Nat) : Prop where
  keep : Keeps Nob w wr
  eng : EngAt wr X eb ib mb (playedTo rs acts k).1 (playedTo rs acts k).2
  xx : ∀ b, X b → w.heap.size ≤ b ∧ b < wr.heap.size
  be : w.heap.size ≤ eb ∧ w.heap.size ≤ ib ∧ w.heap.size ≤ mb
theorem Played.wrote {w wr w2 w3 : World} {X X' : Nat → Prop} {eb ib mb : Nat} {rs : List QRule} {acts : List ActR} {k : Nat} {M : Nat → Prop} (h : Played w wr X eb ib mb rs acts k) (h2 : Keeps Nob wr w2) (h3 : Keeps M w2 w3) (hM : ∀ i, M i → i = eb ∨ i = ib ∨ i = mb) (hX : ∀ b, b < w2.heap.size → (X' b ↔ X b)) (hX' : ∀ b, X' b → b < w3.heap.size) {S : State}
    (hs : playedTo rs acts (k + 1) = S) (he : EngAt w3 X' eb ib mb S.1 S.2) : Played w w3 X' eb ib mb rs acts (k + 1) := by
  have z0 := h.keep.size
  have z2 := h2.size
  refine ⟨(h.keep.trans h2 (fun _ _ h => h)).trans h3 (fun i hi hm => ?_), by rw [hs]; exact he, fun b hb => ⟨?_, hX' b hb⟩, h.be⟩
  · obtain ⟨b1, b2, b3⟩ := h.be
    rcases hM i hm with rfl | rfl | rfl <;> omega
  · rcases Nat.lt_or_ge b w2.heap.size with hl | hl
    · exact (h.xx b ((hX b hl).1 hb)).1
    · omega
set_option maxHeartbeats 8000000 in
/-- PLAYED. -/
theorem played_any (rs : List QRule) (acts : List ActR) (w : World) (X Y : Nat → Prop) (rv av : Value) (hr : RulesX w X rv rs) (ha : ActsX w Y av acts) (ht : rs.length ≤ 200 → Tab w) :
    Calls Tryd.prog 16 #[rv, av] w fun e w' => Keeps Nob w w' ∧ ((check rs).2 ≠ 0 → e = .returned (.pointer none)) ∧
      ((check rs).2 = 0 → ∃ eb ib mb X', e = .returned (.pointer (some ⟨eb, 0, none⟩)) ∧ EngAt w' X' eb ib mb (playedF rs acts).1 (playedF rs acts).2 ∧ (∀ k, X' k → w.heap.size ≤ k ∧ k < w'.heap.size) ∧ w.heap.size ≤ eb ∧ w.heap.size ≤ ib ∧ w.heap.size ≤ mb) := by
  have hnew := Lib.hid (New_any rs w X rv hr ht)
  obtain ⟨rA, rc, rfl, -, -⟩ := id hr
  obtain ⟨A, c, rfl, hcc, hcell⟩ := id ha
  have hpn : ∀ (n : Nat) (w : World), (binOp .eql 35 (.pointer (some ⟨n, 0, none⟩)) (.pointer none)).run Tryd.prog w = .ok (.bool false) w := fun _ _ => by kernel_rfl
  have Hcell := Lib.hid hcell
  obtain ⟨i56, hi56, hs56⟩ := info56
  have HI := Lib.hid (And.intro hi56 hs56)
  clear hr ha hcell ht hi56 hs56
  by_cases hc : (check rs).2 = 0
  · have Hc := Lib.hid hc
    have hv : ∀ a ∈ acts, a.v ≤ 9223372036854775807 := fun a ham => by
      obtain ⟨i, hi, rfl⟩ := List.mem_iff_getElem.1 ham
      obtain ⟨_, _, _, _, _, _, _, _, h⟩ := Hcell.out i hi
      rwa [List.getD_eq_getElem?_getD, List.getElem?_eq_getElem hi] at h
    have Hinv := Lib.hid (playedTo_inv hc hv)
    obtain ⟨al, hal⟩ : ∃ x, acts.length = x := ⟨_, rfl⟩
    have Hal := Lib.hid hal
    rw [hal] at hcc ⊢
    clear hc hv hal
    go_enter Tryd.func16, Tryd.ntmps16
    go_wp2_with (go_at_call 23; go_must (refine hnew.out.mono ?_; rintro e w1 ⟨hk1, -, hx⟩; obtain ⟨eb, ib, mb, X0, rfl, heng, hxl, he1, he2, he3⟩ := hx Hc.out))
    have H0 := Lib.hid (show Played w w1 X0 eb ib mb rs acts 0 from ⟨hk1, heng 0, hxl, he1, he2, he3⟩)
    clear heng hxl he1 he2 he3
    go_loopw [7] (fun v wr => ∃ (k : Nat) (X : Nat → Prop), v = .int .i64 k ∧ k ≤ al ∧ k ≤ 60 ∧ Hid (Played w wr X eb ib mb rs acts k))
      (fun v _ => al - (intOf v).toNat)
    case atStart => exact ⟨0, X0, rfl, Nat.zero_le _, Nat.zero_le _, H0⟩
    case round =>
      obtain ⟨k, Xk, rfl, hk, hk60, hst⟩ := hrel
      by_cases hlt : k < al
      · by_cases hlt2 : k < 60
        · obtain ⟨b, o, rfl, -, c0, c1, c2, ⟨kd0, kd1⟩, vmax⟩ := Hcell.out k (by rw [Hal.out]; exact hlt)
          have c0 := hst.out.keep.cell c0 id
          have c1 := hst.out.keep.cell c1 id
          have c2 := hst.out.keep.cell c2 id
          have hsucc := playedTo_succ (rs := rs) (acts := acts) (k := k) (by rw [Hal.out]; exact hlt)
          have hinv := Hinv.out k (by omega)
          have heng := hst.out.eng
          generalize acts.getD k default = a at *
          obtain ⟨d, aq, av⟩ := a
          simp only at c0 c1 c2 kd0 kd1 vmax
          rcases hS : playedTo rs acts k with ⟨E, ans⟩
          rw [hS] at hsucc hinv heng
          simp only at heng
          obtain ⟨m, hm⟩ : ∃ m, d % 8 = m := ⟨_, rfl⟩
          have hmr : d.tmod 8 = m := by rw [Int.tmod_eq_emod_of_nonneg kd0]; exact hm
          have hm0 : 0 ≤ m := by omega
          have hm8 : m < 8 := by omega
          have hmw : IntKind.u8.wrap m = m := IntWalk.u8_in _ (by omega)
          have hcase : m = 0 ∨ m = 1 ∨ m = 2 ∨ m = 3 ∨ m = 4 ∨ m = 5 ∨ m = 6 ∨ m = 7 := by omega
          have Heng := Lib.hid heng
          have Hsinv := Lib.hid hinv
          have Hsucc := Lib.hid hsucc
          have Hm := Lib.hid hm
          have h200 : E.rules.length ≤ 200 := hinv.ok.len
          clear hsucc hinv heng hS hm
          rcases hcase with rfl | rfl | rfl | rfl | rfl | rfl | rfl | rfl
          · skip
            go_wp2_with (first
              | ((with_reducible refine at_dst (N := 8) rfl ?_); go_must (refine ev_alloc rfl rfl zero56 rfl ?_; intro g8 w1 hg8 hl8 hb8 hk1); have Hb8 := Lib.hid hb8; clear hb8; (try simp only [Act.put, List.setIfInBounds_toArray, List.set_cons_zero, List.set_cons_succ]))
              | ((with_reducible refine at_store (t := 56) rfl ?_); go_must (refine ev_store (cs' := #[.int .u8 d, .int .i64 aq, .int .i64 av]) rfl rfl rfl rfl rfl rfl HI.out.1 HI.out.2 rfl Hb8.out (Nat.le_of_ble_eq_true rfl) rfl ?_; intro w2 hb2 hk2)
                 have f0 := (blk_cell hb2 0).trans rfl
                 have f1 := (blk_cell hb2 1).trans rfl
                 have f2 := (blk_cell hb2 2).trans rfl
                 have HK2 := Lib.hid (show Keeps Nob wr w2 from hk1.own hk2 hg8)
                 clear hb2
                 (try simp only [Act.put, List.setIfInBounds_toArray, List.set_cons_zero, List.set_cons_succ]))
              | (go_at_call 29; go_must (refine (Set_any (Hsinv.out.env (m := 0) (Int.le_refl 0) (by decide)) w2 Xk eb ib mb ans aq av ((Heng.out.after HK2.out).bound 0)).mono ?_; rintro e w3 ⟨rfl, hk3, he3⟩); (try simp only [Act.put, List.setIfInBounds_toArray, List.set_cons_zero, List.set_cons_succ]))
            )
            rw [setF_bound] at he3
            refine ⟨⟨k + 1, Xk, by go_num, by omega, by omega, Lib.hid (hst.out.wrote HK2.out hk3 (fun i hi => hi.elim .inl (fun h => .inr (.inl h))) (fun _ _ => Iff.rfl) (fun b hb => by have h1 := (hst.out.xx b hb).2; have h2 := HK2.out.size; have h3 := hk3.size; omega) (S := ((setF E aq av).1, ans)) (by rw [Hsucc.out]; unfold stepA; rw [if_pos (by show d % 8 < 3; rw [Hm.out]; decide)]) he3.unbound)⟩, by simp [intOf]; omega⟩
          · skip
            go_wp2_with (first
              | ((with_reducible refine at_dst (N := 8) rfl ?_); go_must (refine ev_alloc rfl rfl zero56 rfl ?_; intro g8 w1 hg8 hl8 hb8 hk1); have Hb8 := Lib.hid hb8; clear hb8; (try simp only [Act.put, List.setIfInBounds_toArray, List.set_cons_zero, List.set_cons_succ]))
              | ((with_reducible refine at_store (t := 56) rfl ?_); go_must (refine ev_store (cs' := #[.int .u8 d, .int .i64 aq, .int .i64 av]) rfl rfl rfl rfl rfl rfl HI.out.1 HI.out.2 rfl Hb8.out (Nat.le_of_ble_eq_true rfl) rfl ?_; intro w2 hb2 hk2)
                 have f0 := (blk_cell hb2 0).trans rfl
                 have f1 := (blk_cell hb2 1).trans rfl
                 have f2 := (blk_cell hb2 2).trans rfl
                 have HK2 := Lib.hid (show Keeps Nob wr w2 from hk1.own hk2 hg8)
                 clear hb2
                 (try simp only [Act.put, List.setIfInBounds_toArray, List.set_cons_zero, List.set_cons_succ]))
              | (go_at_call 29; go_must (refine (Set_any (Hsinv.out.env (m := 0) (Int.le_refl 0) (by decide)) w2 Xk eb ib mb ans aq av ((Heng.out.after HK2.out).bound 0)).mono ?_; rintro e w3 ⟨rfl, hk3, he3⟩); (try simp only [Act.put, List.setIfInBounds_toArray, List.set_cons_zero, List.set_cons_succ]))
            )
            rw [setF_bound] at he3
            refine ⟨⟨k + 1, Xk, by go_num, by omega, by omega, Lib.hid (hst.out.wrote HK2.out hk3 (fun i hi => hi.elim .inl (fun h => .inr (.inl h))) (fun _ _ => Iff.rfl) (fun b hb => by have h1 := (hst.out.xx b hb).2; have h2 := HK2.out.size; have h3 := hk3.size; omega) (S := ((setF E aq av).1, ans)) (by rw [Hsucc.out]; unfold stepA; rw [if_pos (by show d % 8 < 3; rw [Hm.out]; decide)]) he3.unbound)⟩, by simp [intOf]; omega⟩
          · skip
            go_wp2_with (first
              | ((with_reducible refine at_dst (N := 8) rfl ?_); go_must (refine ev_alloc rfl rfl zero56 rfl ?_; intro g8 w1 hg8 hl8 hb8 hk1); have Hb8 := Lib.hid hb8; clear hb8; (try simp only [Act.put, List.setIfInBounds_toArray, List.set_cons_zero, List.set_cons_succ]))
              | ((with_reducible refine at_store (t := 56) rfl ?_); go_must (refine ev_store (cs' := #[.int .u8 d, .int .i64 aq, .int .i64 av]) rfl rfl rfl rfl rfl rfl HI.out.1 HI.out.2 rfl Hb8.out (Nat.le_of_ble_eq_true rfl) rfl ?_; intro w2 hb2 hk2)
                 have f0 := (blk_cell hb2 0).trans rfl
                 have f1 := (blk_cell hb2 1).trans rfl
                 have f2 := (blk_cell hb2 2).trans rfl
                 have HK2 := Lib.hid (show Keeps Nob wr w2 from hk1.own hk2 hg8)
                 clear hb2
                 (try simp only [Act.put, List.setIfInBounds_toArray, List.set_cons_zero, List.set_cons_succ]))
              | (go_at_call 29; go_must (refine (Set_any (Hsinv.out.env (m := 0) (Int.le_refl 0) (by decide)) w2 Xk eb ib mb ans aq av ((Heng.out.after HK2.out).bound 0)).mono ?_; rintro e w3 ⟨rfl, hk3, he3⟩); (try simp only [Act.put, List.setIfInBounds_toArray, List.set_cons_zero, List.set_cons_succ]))
            )
            rw [setF_bound] at he3
            refine ⟨⟨k + 1, Xk, by go_num, by omega, by omega, Lib.hid (hst.out.wrote HK2.out hk3 (fun i hi => hi.elim .inl (fun h => .inr (.inl h))) (fun _ _ => Iff.rfl) (fun b hb => by have h1 := (hst.out.xx b hb).2; have h2 := HK2.out.size; have h3 := hk3.size; omega) (S := ((setF E aq av).1, ans)) (by rw [Hsucc.out]; unfold stepA; rw [if_pos (by show d % 8 < 3; rw [Hm.out]; decide)]) he3.unbound)⟩, by simp [intOf]; omega⟩
          · skip
            go_wp2_with (first
              | ((with_reducible refine at_dst (N := 8) rfl ?_); go_must (refine ev_alloc rfl rfl zero56 rfl ?_; intro g8 w1 hg8 hl8 hb8 hk1); have Hb8 := Lib.hid hb8; clear hb8; (try simp only [Act.put, List.setIfInBounds_toArray, List.set_cons_zero, List.set_cons_succ]))
              | ((with_reducible refine at_store (t := 56) rfl ?_); go_must (refine ev_store (cs' := #[.int .u8 d, .int .i64 aq, .int .i64 av]) rfl rfl rfl rfl rfl rfl HI.out.1 HI.out.2 rfl Hb8.out (Nat.le_of_ble_eq_true rfl) rfl ?_; intro w2 hb2 hk2)
                 have f0 := (blk_cell hb2 0).trans rfl
                 have f1 := (blk_cell hb2 1).trans rfl
                 have f2 := (blk_cell hb2 2).trans rfl
                 have HK2 := Lib.hid (show Keeps Nob wr w2 from hk1.own hk2 hg8)
                 clear hb2
                 (try simp only [Act.put, List.setIfInBounds_toArray, List.set_cons_zero, List.set_cons_succ]))
              | (go_at_call 30; go_must (refine (Forget_any Xk eb ib mb E ans aq w2 (Heng.out.after HK2.out) h200).mono ?_; rintro e w3 ⟨rfl, hk3, he3⟩); (try simp only [Act.put, List.setIfInBounds_toArray, List.set_cons_zero, List.set_cons_succ]))
            )
            refine ⟨⟨k + 1, Xk, by go_num, by omega, by omega, Lib.hid (hst.out.wrote HK2.out hk3 (fun i hi => .inr (.inr hi)) (fun _ _ => Iff.rfl) (fun b hb => by have h1 := (hst.out.xx b hb).2; have h2 := HK2.out.size; have h3 := hk3.size; omega) (S := (E, (forgetF E ans aq).1)) (by rw [Hsucc.out]; unfold stepA; rw [if_neg (by show ¬ d % 8 < 3; rw [Hm.out]; decide), if_pos (by show d % 8 = 3; rw [Hm.out])]) he3)⟩, by simp [intOf]; omega⟩
          · skip
            go_wp2_with (first
              | ((with_reducible refine at_dst (N := 8) rfl ?_); go_must (refine ev_alloc rfl rfl zero56 rfl ?_; intro g8 w1 hg8 hl8 hb8 hk1); have Hb8 := Lib.hid hb8; clear hb8; (try simp only [Act.put, List.setIfInBounds_toArray, List.set_cons_zero, List.set_cons_succ]))
              | ((with_reducible refine at_store (t := 56) rfl ?_); go_must (refine ev_store (cs' := #[.int .u8 d, .int .i64 aq, .int .i64 av]) rfl rfl rfl rfl rfl rfl HI.out.1 HI.out.2 rfl Hb8.out (Nat.le_of_ble_eq_true rfl) rfl ?_; intro w2 hb2 hk2)
                 have f0 := (blk_cell hb2 0).trans rfl
                 have f1 := (blk_cell hb2 1).trans rfl
                 have f2 := (blk_cell hb2 2).trans rfl
                 have HK2 := Lib.hid (show Keeps Nob wr w2 from hk1.own hk2 hg8)
                 clear hb2
                 (try simp only [Act.put, List.setIfInBounds_toArray, List.set_cons_zero, List.set_cons_succ]))
              | (go_at_call 18; go_must (refine (AskR_any Hsinv.out w2 Xk eb ib mb aq av vmax (Heng.out.after HK2.out) (fun b hb => Nat.lt_of_lt_of_le (hst.out.xx b hb).2 HK2.out.size)).mono ?_; rintro e w3 ⟨X3, wl3, rfl, hx3, hxl3, hk3, he3, -, -⟩); (try simp only [Act.put, List.setIfInBounds_toArray, List.set_cons_zero, List.set_cons_succ]))
            )
            rw [askR_ans] at he3
            refine ⟨⟨k + 1, X3, by go_num, by omega, by omega, Lib.hid (hst.out.wrote HK2.out hk3 (fun i hi => .inr (.inr hi)) hx3 hxl3 (S := (E, askS E ans aq av)) (by rw [Hsucc.out]; unfold stepA; rw [if_neg (by show ¬ d % 8 < 3; rw [Hm.out]; decide), if_neg (by show ¬ d % 8 = 3; rw [Hm.out]; decide)]; first | (rw [if_pos (by show d % 8 = 4; rw [Hm.out])]; done) | rw [if_neg (by show ¬ d % 8 = 4; rw [Hm.out]; decide)]) he3)⟩, by simp [intOf]; omega⟩
          · skip
            go_wp2_with (first
              | ((with_reducible refine at_dst (N := 8) rfl ?_); go_must (refine ev_alloc rfl rfl zero56 rfl ?_; intro g8 w1 hg8 hl8 hb8 hk1); have Hb8 := Lib.hid hb8; clear hb8; (try simp only [Act.put, List.setIfInBounds_toArray, List.set_cons_zero, List.set_cons_succ]))
              | ((with_reducible refine at_store (t := 56) rfl ?_); go_must (refine ev_store (cs' := #[.int .u8 d, .int .i64 aq, .int .i64 av]) rfl rfl rfl rfl rfl rfl HI.out.1 HI.out.2 rfl Hb8.out (Nat.le_of_ble_eq_true rfl) rfl ?_; intro w2 hb2 hk2)
                 have f0 := (blk_cell hb2 0).trans rfl
                 have f1 := (blk_cell hb2 1).trans rfl
                 have f2 := (blk_cell hb2 2).trans rfl
                 have HK2 := Lib.hid (show Keeps Nob wr w2 from hk1.own hk2 hg8)
                 clear hb2
                 (try simp only [Act.put, List.setIfInBounds_toArray, List.set_cons_zero, List.set_cons_succ]))
              | (go_at_call 18; go_must (refine (AskR_any Hsinv.out w2 Xk eb ib mb aq 1073741824 (by decide) (Heng.out.after HK2.out) (fun b hb => Nat.lt_of_lt_of_le (hst.out.xx b hb).2 HK2.out.size)).mono ?_; rintro e w3 ⟨X3, wl3, rfl, hx3, hxl3, hk3, he3, -, -⟩); (try simp only [Act.put, List.setIfInBounds_toArray, List.set_cons_zero, List.set_cons_succ]))
            )
            rw [askR_ans] at he3
            refine ⟨⟨k + 1, X3, by go_num, by omega, by omega, Lib.hid (hst.out.wrote HK2.out hk3 (fun i hi => .inr (.inr hi)) hx3 hxl3 (S := (E, askS E ans aq 1073741824)) (by rw [Hsucc.out]; unfold stepA; rw [if_neg (by show ¬ d % 8 < 3; rw [Hm.out]; decide), if_neg (by show ¬ d % 8 = 3; rw [Hm.out]; decide)]; first | (rw [if_pos (by show d % 8 = 4; rw [Hm.out])]; done) | rw [if_neg (by show ¬ d % 8 = 4; rw [Hm.out]; decide)]) he3)⟩, by simp [intOf]; omega⟩
          · skip
            go_wp2_with (first
              | ((with_reducible refine at_dst (N := 8) rfl ?_); go_must (refine ev_alloc rfl rfl zero56 rfl ?_; intro g8 w1 hg8 hl8 hb8 hk1); have Hb8 := Lib.hid hb8; clear hb8; (try simp only [Act.put, List.setIfInBounds_toArray, List.set_cons_zero, List.set_cons_succ]))
              | ((with_reducible refine at_store (t := 56) rfl ?_); go_must (refine ev_store (cs' := #[.int .u8 d, .int .i64 aq, .int .i64 av]) rfl rfl rfl rfl rfl rfl HI.out.1 HI.out.2 rfl Hb8.out (Nat.le_of_ble_eq_true rfl) rfl ?_; intro w2 hb2 hk2)
                 have f0 := (blk_cell hb2 0).trans rfl
                 have f1 := (blk_cell hb2 1).trans rfl
                 have f2 := (blk_cell hb2 2).trans rfl
                 have HK2 := Lib.hid (show Keeps Nob wr w2 from hk1.own hk2 hg8)
                 clear hb2
                 (try simp only [Act.put, List.setIfInBounds_toArray, List.set_cons_zero, List.set_cons_succ]))
              | (go_at_call 18; go_must (refine (AskR_any Hsinv.out w2 Xk eb ib mb aq 1073741824 (by decide) (Heng.out.after HK2.out) (fun b hb => Nat.lt_of_lt_of_le (hst.out.xx b hb).2 HK2.out.size)).mono ?_; rintro e w3 ⟨X3, wl3, rfl, hx3, hxl3, hk3, he3, -, -⟩); (try simp only [Act.put, List.setIfInBounds_toArray, List.set_cons_zero, List.set_cons_succ]))
            )
            rw [askR_ans] at he3
            refine ⟨⟨k + 1, X3, by go_num, by omega, by omega, Lib.hid (hst.out.wrote HK2.out hk3 (fun i hi => .inr (.inr hi)) hx3 hxl3 (S := (E, askS E ans aq 1073741824)) (by rw [Hsucc.out]; unfold stepA; rw [if_neg (by show ¬ d % 8 < 3; rw [Hm.out]; decide), if_neg (by show ¬ d % 8 = 3; rw [Hm.out]; decide)]; first | (rw [if_pos (by show d % 8 = 4; rw [Hm.out])]; done) | rw [if_neg (by show ¬ d % 8 = 4; rw [Hm.out]; decide)]) he3)⟩, by simp [intOf]; omega⟩
          · skip
            go_wp2_with (first
              | ((with_reducible refine at_dst (N := 8) rfl ?_); go_must (refine ev_alloc rfl rfl zero56 rfl ?_; intro g8 w1 hg8 hl8 hb8 hk1); have Hb8 := Lib.hid hb8; clear hb8; (try simp only [Act.put, List.setIfInBounds_toArray, List.set_cons_zero, List.set_cons_succ]))
              | ((with_reducible refine at_store (t := 56) rfl ?_); go_must (refine ev_store (cs' := #[.int .u8 d, .int .i64 aq, .int .i64 av]) rfl rfl rfl rfl rfl rfl HI.out.1 HI.out.2 rfl Hb8.out (Nat.le_of_ble_eq_true rfl) rfl ?_; intro w2 hb2 hk2)
                 have f0 := (blk_cell hb2 0).trans rfl
                 have f1 := (blk_cell hb2 1).trans rfl
                 have f2 := (blk_cell hb2 2).trans rfl
                 have HK2 := Lib.hid (show Keeps Nob wr w2 from hk1.own hk2 hg8)
                 clear hb2
                 (try simp only [Act.put, List.setIfInBounds_toArray, List.set_cons_zero, List.set_cons_succ]))
              | (go_at_call 18; go_must (refine (AskR_any Hsinv.out w2 Xk eb ib mb aq 1073741824 (by decide) (Heng.out.after HK2.out) (fun b hb => Nat.lt_of_lt_of_le (hst.out.xx b hb).2 HK2.out.size)).mono ?_; rintro e w3 ⟨X3, wl3, rfl, hx3, hxl3, hk3, he3, -, -⟩); (try simp only [Act.put, List.setIfInBounds_toArray, List.set_cons_zero, List.set_cons_succ]))
            )
            rw [askR_ans] at he3
            refine ⟨⟨k + 1, X3, by go_num, by omega, by omega, Lib.hid (hst.out.wrote HK2.out hk3 (fun i hi => .inr (.inr hi)) hx3 hxl3 (S := (E, askS E ans aq 1073741824)) (by rw [Hsucc.out]; unfold stepA; rw [if_neg (by show ¬ d % 8 < 3; rw [Hm.out]; decide), if_neg (by show ¬ d % 8 = 3; rw [Hm.out]; decide)]; first | (rw [if_pos (by show d % 8 = 4; rw [Hm.out])]; done) | rw [if_neg (by show ¬ d % 8 = 4; rw [Hm.out]; decide)]) he3)⟩, by simp [intOf]; omega⟩
        · have hk' : k = 60 := by omega
          subst hk'
          go_wp2
          go_ret
          exact ⟨hst.out.keep, fun h => absurd Hc.out h, fun _ => ⟨eb, ib, mb, Xk, rfl, hst.out.eng, hst.out.xx, hst.out.be.1, hst.out.be.2.1, hst.out.be.2.2⟩⟩
      · have hk' : k = al := by omega
        subst hk'
        have Hend := Lib.hid (show playedTo rs acts k = playedF rs acts by rw [← Hal.out]; rcases playedTo_end (rs := rs) (acts := acts) with h | h; exact h; exact absurd h (by have := Hal.out; omega))
        go_wp2
        go_ret
        refine ⟨hst.out.keep, fun h => absurd Hc.out h, fun _ => ⟨eb, ib, mb, Xk, rfl, ?_, hst.out.xx, hst.out.be.1, hst.out.be.2.1, hst.out.be.2.2⟩⟩
        rw [← Hend.out]
        exact hst.out.eng
  · have hne : ((check rs).2 != 0) = true := by simpa using hc
    have Hc := Lib.hid hc
    clear hc
    go_enter Tryd.func16, Tryd.ntmps16
    go_wp2_with (go_at_call 23; go_must (refine hnew.out.mono ?_; rintro e w1 ⟨hk1, hx, -⟩; obtain rfl := hx Hc.out))
    go_ret
    exact ⟨hk1, fun _ => rfl, fun h => absurd h Hc.out⟩
end Go.Proofs.QW

/-
  What was set (inputs), in memory. Condition: the engine and its rules lie.
-/
namespace Go.Proofs.QW
open Go.RowKit Go.Proofs.KL Go.Proofs.QM
set_option maxRecDepth 100000
set_option linter.unusedSimpArgs false
set_option linter.unusedVariables false

theorem made3 {n i : Nat} (hi : i < n) : (madeCells (Value.int .i64 0).cells (n * 1))[i]? = some (.int .i64 0) := by
  refine (madeCells_get (z := .int .i64 0) (sz := 1) rfl (by decide) (by omega : i < n * 1)).trans ?_
  simp only [Nat.mod_one]; rfl
theorem ints_block {w : World} {g n : Nat} {cs : Array Value} {xs : List Int} (hb : w.heap[g]? = some (.cells cs 3 (0, 0))) (hl : xs.length = n) (hx : ∀ i, i < n → cs[i]? = some (.int .i64 (xs.getD i 0))) (X : Nat → Prop) (hX : X g) : IntsX w X (.slice (some ⟨g, 0, none⟩) n n) xs :=
  ⟨some ⟨g, 0, none⟩, n, by rw [hl], by omega, fun i hi => ⟨g, 0, rfl, hX, by rw [blk_cell hb, Nat.zero_add]; exact hx i (by omega)⟩⟩
set_option maxHeartbeats 4000000 in
/-- INPUTS. -/
theorem inputs_any (E : Env) (ans : List (Option KeptR)) (w : World) (X Y : Nat → Prop) (eb ib mb : Nat) (rv : Value) (he : EngAt w X eb ib mb E ans) (hr : RulesX w Y rv E.rules) (h200 : E.rules.length ≤ 200) :
    Calls Tryd.prog 17 #[.pointer (some ⟨eb, 0, none⟩), rv] w fun e w' => ∃ lv, e = .returned lv ∧ Keeps Nob w w' ∧ IntsX w' (fun k => w.heap.size ≤ k ∧ k < w'.heap.size) lv (inputsF E) := by
  obtain ⟨A, c, rfl, hcc, hcell⟩ := id hr
  have Hcell := Lib.hid hcell
  have HE := Lib.hid he
  have hig : ∀ i, i < E.rules.length → (inputsF E).getD i 0 = if (E.rules.getD i default).kind = 1 then E.inp.getD i 0 else 0 := fun i hi => inputsF_get E hi
  have Hig := Lib.hid hig
  have Hil := Lib.hid (inputsF_length E)
  obtain ⟨n, hn⟩ : ∃ n, E.rules.length = n := ⟨_, rfl⟩
  have Hn := Lib.hid hn
  rw [hn] at h200 hcc ⊢
  obtain ⟨i3, hi3, hs3⟩ := infoS3
  obtain ⟨i72, hi72, hs72⟩ := info72
  have HI := Lib.hid (And.intro (And.intro hi3 hs3) (And.intro hi72 hs72))
  clear hr hcell he hig hn hi3 hs3 hi72 hs72
  go_enter Tryd.func17, Tryd.ntmps17
  go_wp2_with ((with_reducible refine at_dst (N := 10) rfl ?_); go_must (refine ev_makeSlice rfl rfl n rfl rfl Tryd.underlying23 info3 rfl (by decide) (by omega) (by omega) ?_; intro gm w1 hgm hlm hbm hkm); have Hbm := Lib.hid hbm; clear hbm; (try simp only [Act.put, List.setIfInBounds_toArray, List.set_cons_zero, List.set_cons_succ]))
  have Hk1 := Lib.hid hkm
  have Hg := Lib.hid (show w.heap.size ≤ gm ∧ gm < w1.heap.size from ⟨hgm, hlm⟩)
  clear hkm hgm hlm
  go_loopw [13] (fun v wr => ∃ (k : Nat) (cs : Array Value), v = .int .i64 k ∧ k ≤ n ∧ Hid (Keeps Nob w wr) ∧ Hid (wr.heap[gm]? = some (.cells cs 3 (0, 0))) ∧ Hid (∀ i, i < n → cs[i]? = some (.int .i64 (if i < k then (inputsF E).getD i 0 else 0))))
    (fun v _ => n - (intOf v).toNat)
  case atStart => exact ⟨0, _, rfl, Nat.zero_le _, Hk1, Hbm, Lib.hid (fun i hi => by rw [if_neg (by omega)]; exact made3 hi)⟩
  case round =>
    obtain ⟨k, cs, rfl, hk, hkeep, hblk, hcs⟩ := hrel
    by_cases hlt : k < n
    · obtain ⟨b, o, u, rfl, -, e0, e1, e2, hu⟩ := Hcell.out k (by rw [Hn.out]; exact hlt)
      have e0 := hkeep.out.cell e0 id
      have e1 := hkeep.out.cell e1 id
      have e2 := hkeep.out.cell e2 id
      obtain ⟨uA, uc, rfl, -, -⟩ := id hu
      have hgk := Hig.out k (by rw [Hn.out]; exact hlt)
      have hkind : (E.rule (k : Int)) = E.rules.getD k default := by unfold Env.rule; rw [Int.toNat_natCast]
      have hsz := pget_size (hcs.out k hlt)
      have Hsz := Lib.hid hsz
      generalize hrd : E.rules.getD k default = r at *
      have Hkind := Lib.hid hkind
      clear hu hkind hsz hrd
      by_cases hk1 : r.kind = 1
      · have hkb : (r.kind == 1) = true := by rw [hk1]; rfl
        rw [if_pos hk1] at hgk
        have hkv : keptVal E ans (k : Int) = (E.inp.getD k 0, true) := by
          unfold keptVal
          rw [if_neg (by unfold isErr; rw [if_neg (by have := Hn.out; omega)]; decide), if_pos (by rw [Hkind.out]; exact hk1), Int.toNat_natCast]
        generalize E.inp.getD k 0 = x at *
        have Hgk := Lib.hid hgk
        have Hkv := Lib.hid hkv
        clear hgk hkv hk1
        go_wp2_with (first
          | ((with_reducible refine at_dst (N := 7) rfl ?_); go_must (refine ev_alloc rfl rfl zero72 rfl ?_; intro g7 w2 hg7 hl7 hb7 hk7); have Hb7 := Lib.hid hb7; clear hb7; (try simp only [Act.put, List.setIfInBounds_toArray, List.set_cons_zero, List.set_cons_succ]))
          | ((with_reducible refine at_store (t := 72) rfl ?_); go_must (refine ev_store (cs' := #[.int .i64 r.kind, .int .i64 r.n, .slice uA r.asks.length uc]) rfl rfl rfl rfl rfl rfl HI.out.2.1 HI.out.2.2 rfl Hb7.out (Nat.le_of_ble_eq_true rfl) rfl ?_; intro w3 hb3 hk3)
             have f0 := (blk_cell hb3 0).trans rfl
             have HK3 := Lib.hid (show Keeps Nob wr w3 from hk7.own hk3 hg7)
             clear hb3
             (try simp only [Act.put, List.setIfInBounds_toArray, List.set_cons_zero, List.set_cons_succ]))
          | (go_at_call 19
             have hrun := Kept_any X eb ib mb E ans k w3 ((HE.out.after hkeep.out).after HK3.out) (by rw [Hn.out]; exact h200)
             rw [Hkv.out] at hrun
             go_must (refine hrun.mono ?_; rintro e w4 ⟨rfl, hk4⟩)
             have Hblk4 := Lib.hid (hk4.blk (HK3.out.blk hblk.out id) id)
             have HK4 := Lib.hid (HK3.out.trans hk4 (fun _ _ h => h))
             clear hrun hk4
             (try simp only [Act.put, List.setIfInBounds_toArray, List.set_cons_zero, List.set_cons_succ]))
          | ((with_reducible refine at_store (t := 3) rfl ?_)
             go_must (refine ev_store (x := .int .i64 x) (vs := [.int .i64 x]) (off := k) (cs' := List.toArray (cs.toList.take k ++ [Value.int .i64 x] ++ cs.toList.drop (k + [Value.int .i64 x].length))) rfl rfl rfl rfl rfl rfl HI.out.1.1 HI.out.1.2 rfl Hblk4.out (by have := Hsz.out; exact this) rfl ?_; intro w5 hb5 hk5)
             (try simp only [Act.put, List.setIfInBounds_toArray, List.set_cons_zero, List.set_cons_succ])))
        refine ⟨⟨k + 1, _, by go_num, by omega, Lib.hid ((hkeep.out.trans HK4.out (fun _ _ h => h)).own hk5 Hg.out.1), Lib.hid hb5, Lib.hid (fun i hi => ?_)⟩, by simp [intOf]; omega⟩
        rw [psplice_get (by have := Hsz.out; exact this)]
        by_cases e : i = k
        · subst e
          rw [if_pos (by simp), if_pos (by omega), Hgk.out]; simp
        · rw [if_neg (by simp; omega), hcs.out i hi]
          by_cases h : i < k
          · rw [if_pos h, if_pos (by omega)]
          · rw [if_neg h, if_neg (by omega)]
      · have hkb : (r.kind == 1) = false := by simpa using hk1
        rw [if_neg hk1] at hgk
        have Hgk := Lib.hid hgk
        clear hgk hk1
        go_wp2_with (first
          | ((with_reducible refine at_dst (N := 7) rfl ?_); go_must (refine ev_alloc rfl rfl zero72 rfl ?_; intro g7 w2 hg7 hl7 hb7 hk7); have Hb7 := Lib.hid hb7; clear hb7; (try simp only [Act.put, List.setIfInBounds_toArray, List.set_cons_zero, List.set_cons_succ]))
          | ((with_reducible refine at_store (t := 72) rfl ?_); go_must (refine ev_store (cs' := #[.int .i64 r.kind, .int .i64 r.n, .slice uA r.asks.length uc]) rfl rfl rfl rfl rfl rfl HI.out.2.1 HI.out.2.2 rfl Hb7.out (Nat.le_of_ble_eq_true rfl) rfl ?_; intro w3 hb3 hk3)
             have f0 := (blk_cell hb3 0).trans rfl
             have HK3 := Lib.hid (show Keeps Nob wr w3 from hk7.own hk3 hg7)
             clear hb3
             (try simp only [Act.put, List.setIfInBounds_toArray, List.set_cons_zero, List.set_cons_succ])))
        refine ⟨⟨k + 1, cs, by go_num, by omega, Lib.hid (hkeep.out.trans HK3.out (fun _ _ h => h)), Lib.hid (HK3.out.blk hblk.out id), Lib.hid (fun i hi => ?_)⟩, by simp [intOf]; omega⟩
        rw [hcs.out i hi]
        by_cases e : i = k
        · subst e; rw [if_neg (by omega), if_pos (by omega), Hgk.out]
        · by_cases h : i < k
          · rw [if_pos h, if_pos (by omega)]
          · rw [if_neg h, if_neg (by omega)]
    · have hk' : k = n := by omega
      subst hk'
      go_wp2
      go_ret
      refine ⟨_, rfl, hkeep.out, ints_block hblk.out (by rw [Hil.out, Hn.out]) (fun i hi => by rw [hcs.out i hi, if_pos hi]) _ ⟨Hg.out.1, blk_lt hblk.out⟩⟩
theorem EngAt.lts {w : World} {X : Nat → Prop} {eb ib mb : Nat} {E : Env} {ans : List (Option KeptR)} (h : EngAt w X eb ib mb E ans) : eb < w.heap.size ∧ ib < w.heap.size ∧ mb < w.heap.size := by
  obtain ⟨⟨rv, c, hb, _⟩, ⟨cs, hib, _⟩, ⟨es, cl, hmb, _⟩, _, _, _⟩ := h
  exact ⟨blk_lt hb, blk_lt hib, blk_lt hmb⟩
end Go.Proofs.QW
