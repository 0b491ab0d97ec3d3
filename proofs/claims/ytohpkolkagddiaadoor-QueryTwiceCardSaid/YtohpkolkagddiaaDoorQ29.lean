/-
  Bounds of what the specification's Plain knows. No program in sight. No condition.
-/
import Derived.Test.YtohpkolkagddiaaDoorQ27
namespace Go.Proofs.QM

/-- What is known is within bounds. -/
def KB (n : Nat) (k : Known) : Prop := k.length = n ∧ ∀ i v c, k.getD i none = some (v, c) → 0 ≤ v ∧ v ≤ 1048576 ∧ 0 ≤ c ∧ c ≤ 1048576
theorem capM_range {c : Int} (h : 0 ≤ c) : 0 ≤ capM c ∧ capM c ≤ 1048576 := by unfold capM; omega
theorem KB.put {n : Nat} {k : Known} (h : KB n k) (q : Nat) {v c : Int} (hv : 0 ≤ v ∧ v ≤ 1048576 ∧ 0 ≤ c ∧ c ≤ 1048576) : KB n (k.set q (some (v, c))) := by
  refine ⟨by rw [List.length_set]; exact h.1, fun i v' c' hx => ?_⟩
  rw [List.getD_eq_getElem?_getD, List.getElem?_set] at hx
  split at hx
  · split at hx
    · simp at hx
      obtain ⟨rfl, rfl⟩ := hx
      exact hv
    · simp at hx
  · exact h.2 i v' c' (by rw [List.getD_eq_getElem?_getD]; exact hx)
def RGood (n : Nat) (rask : RAsk) : Prop :=
  ∀ s (q : Int), KB n s → 0 ≤ q ∧ q < n → KB n (rask s q).1 ∧ (0 ≤ (rask s q).2.cost ∧ (rask s q).2.cost ≤ 1048576) ∧ ((rask s q).2.e = 0 → 0 ≤ (rask s q).2.n ∧ (rask s q).2.n ≤ 1048576)
theorem rAll_good {n : Nat} {rask : RAsk} (hg : RGood n rask) (stop : Bool) : ∀ (l : List Int) (s : Known) (c : Int), KB n s → (∀ q ∈ l, 0 ≤ q ∧ q < n) → 0 ≤ c ∧ c ≤ 1048576 →
    KB n (rAll rask stop s c l).1 ∧ (0 ≤ (rAll rask stop s c l).2.1 ∧ (rAll rask stop s c l).2.1 ≤ 1048576) ∧ ∀ got, (rAll rask stop s c l).2.2 = .ok got → got.length ≤ l.length ∧ (∀ v ∈ got, 0 ≤ v ∧ v ≤ 1048576) ∧ (stop = false → got.length = l.length)
  | [], s, c, hs, _, hc => ⟨hs, hc, fun got h => by simp [rAll] at h; subst h; simp⟩
  | q :: r, s, c, hs, hq, hc => by
    obtain ⟨h1, h2, h3⟩ := hg s q hs (hq q List.mem_cons_self)
    unfold rAll
    rcases he : rask s q with ⟨s1, a⟩
    rw [he] at h1 h2 h3
    simp only at h1 h2 h3 ⊢
    have hcap := capM_range (c := c + a.cost) (by omega)
    by_cases he0 : a.e = 0
    · rw [if_neg (show ¬ (a.e ≠ 0) from fun h => h he0)]
      by_cases hst : stop = true ∧ a.n ≠ 0
      · rw [if_pos hst]
        refine ⟨h1, hcap, fun got h => ?_⟩
        injection h with h
        subst h
        refine ⟨by simp, fun v hv => ?_, fun h => by rw [hst.1] at h; cases h⟩
        rw [List.mem_singleton.1 hv]; exact h3 he0
      · rw [if_neg hst]
        have ih := rAll_good hg stop r s1 (capM (c + a.cost)) h1 (fun p hp => hq p (List.mem_cons_of_mem _ hp)) hcap
        rcases hb : rAll rask stop s1 (capM (c + a.cost)) r with ⟨k2, c2, b2⟩
        rw [hb] at ih
        obtain ⟨i1, i2, i3⟩ := ih
        cases b2 with
        | error e => exact ⟨i1, i2, fun got h => by cases h⟩
        | ok vs =>
          refine ⟨i1, i2, fun got h => ?_⟩
          injection h with h
          subst h
          obtain ⟨j1, j2, j3⟩ := i3 vs rfl
          refine ⟨by simp; omega, fun v hv => ?_, fun h => by simp [j3 h]⟩
          rcases List.mem_cons.1 hv with rfl | hv
          · exact h3 he0
          · exact j2 v hv
    · rw [if_pos he0]
      exact ⟨h1, hcap, fun got h => by cases h⟩
theorem rRule_good {E : Env} {rask : RAsk} (hg : RGood E.rules.length rask) {r : QRule} (hr : ROk E.rules.length r) {s : Known} (hs : KB E.rules.length s) :
    KB E.rules.length (rRule rask s r).1 ∧ (0 ≤ (rRule rask s r).2.cost ∧ (rRule rask s r).2.cost ≤ 1048576) ∧ ((rRule rask s r).2.e = 0 → 0 ≤ (rRule rask s r).2.n ∧ (rRule rask s r).2.n ≤ 1048576) := by
  unfold rRule
  by_cases hk : r.kind = 3
  · rw [if_pos hk]
    have hq0 := (pick_mem (E := E) hr hk (v := 0) (Int.le_refl 0)).2
    obtain ⟨h1, h2, h3⟩ := hg s (r.asks.getD 0 0) hs hq0
    rcases he : rask s (r.asks.getD 0 0) with ⟨s1, a⟩
    rw [he] at h1 h2 h3
    simp only at h1 h2 h3 ⊢
    have hcap := capM_range (c := 1 + a.cost) (by omega)
    by_cases he0 : a.e = 0
    · rw [if_neg (show ¬ (a.e ≠ 0) from fun h => h he0)]
      obtain ⟨g1, g2, g3⟩ := hg s1 (pickOf r a.n) h1 (pick_mem (E := E) hr hk (h3 he0).1).1
      rcases he2 : rask s1 (pickOf r a.n) with ⟨s2, b⟩
      rw [he2] at g1 g2 g3
      exact ⟨g1, capM_range (c := capM (1 + a.cost) + b.cost) (by simp only at g2; omega), g3⟩
    · rw [if_pos he0]
      exact ⟨h1, hcap, fun _ => ⟨Int.le_refl 0, (by omega : (0 : Int) ≤ 1048576)⟩⟩
  · rw [if_neg hk]
    have h := rAll_good hg (r.kind == 4) r.asks s 1 hs hr.asks (by omega)
    rcases hb : rAll rask (r.kind == 4) s 1 r.asks with ⟨k2, c2, b2⟩
    rw [hb] at h
    obtain ⟨h1, h2, h3⟩ := h
    cases b2 with
    | error e => exact ⟨h1, h2, fun _ => ⟨Int.le_refl 0, (by omega : (0 : Int) ≤ 1048576)⟩⟩
    | ok got => exact ⟨h1, h2, fun _ => answerOf_range hr (h3 got rfl).2.1⟩
theorem rAsk_good {E : Env} (hE : EnvOk E) : ∀ (f : Nat) (on : List Int), RGood E.rules.length (rAsk E.rules E.inp f on)
  | 0, _, s, _, hs, _ => ⟨hs, ⟨Int.le_refl 0, (by omega : (0 : Int) ≤ 1048576)⟩, fun _ => ⟨Int.le_refl 0, (by omega : (0 : Int) ≤ 1048576)⟩⟩
  | f + 1, on, s, q, hs, hq => by
    unfold rAsk
    have hrule : E.rules.getD q.toNat default = E.rule q := rfl
    rw [hrule]
    by_cases hk : (E.rule q).kind = 1
    · rw [if_pos hk]
      exact ⟨hs, ⟨Int.le_refl 0, (by omega : (0 : Int) ≤ 1048576)⟩, fun _ => hE.ival q hq.1 hq.2 hk⟩
    rw [if_neg hk]
    by_cases hon : q ∈ on
    · rw [if_pos hon]
      exact ⟨hs, ⟨Int.le_refl 0, (by omega : (0 : Int) ≤ 1048576)⟩, fun _ => ⟨Int.le_refl 0, (by omega : (0 : Int) ≤ 1048576)⟩⟩
    rw [if_neg hon]
    cases hg : s.getD q.toNat none with
    | some x =>
      obtain ⟨v, c⟩ := x
      obtain ⟨h1, h2, h3, h4⟩ := hs.2 _ _ _ hg
      exact ⟨hs, ⟨h3, h4⟩, fun _ => ⟨h1, h2⟩⟩
    | none =>
      have hr := hE.rok _ (rule_mem (E := E) hq)
      obtain ⟨h1, h2, h3⟩ := rRule_good (rAsk_good hE f (q :: on)) hr hs
      rcases hb : rRule (rAsk E.rules E.inp f (q :: on)) s (E.rule q) with ⟨k1, a⟩
      rw [hb] at h1 h2 h3
      simp only at h1 h2 h3 ⊢
      by_cases he : a.e = 0
      · rw [if_pos he]
        exact ⟨h1.put _ ⟨(h3 he).1, (h3 he).2, h2.1, h2.2⟩, h2, h3⟩
      · rw [if_neg he]
        exact ⟨h1, h2, h3⟩
end Go.Proofs.QM
