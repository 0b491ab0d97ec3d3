/-
  The model of an engine that was just made, and the specification's Plain, go side by side. No program in sight. No condition.
-/
import Derived.Test.YtohpkolkagddiaaDoorQ26
namespace Go.Proofs.QM

structure Sim (E : Env) (s : PS) (k : Known) : Prop where
  len : k.length = E.rules.length
  chk : ∀ q, InQ E q → ∀ kr, s.get q = some kr → kr.checked = E.rev
  some_ : ∀ q, InQ E q → ∀ kr, s.get q = some kr → ∃ c, k.getD q.toNat none = some (kr.value, c)
  none_ : ∀ q, InQ E q → s.get q = none → k.getD q.toNat none = none
def Fits (r : Except Int (Int × Int)) (a : RA) : Prop :=
  match r with
  | .ok (v, _) => a.n = v ∧ a.e = 0
  | .error c => a.e = c ∧ c ≠ 0
def SimAsk (E : Env) (on : List Int) (ask : AskFn) (rask : RAsk) : Prop :=
  ∀ s k q, PInv E on s → Sim E s k → InQ E q → Sim E (ask s q).1 (rask k q).1 ∧ Fits (ask s q).2 (rask k q).2
theorem askAll_sim {E : Env} {on : List Int} {ask : AskFn} {rask : RAsk} (hg : Good E on ask) (hs : SimAsk E on ask rask) (stop : Bool) :
    ∀ (l : List Int) (s : PS) (k : Known) (c : Int), PInv E on s → Sim E s k → (∀ q ∈ l, InQ E q) →
      Sim E (askAll ask stop s l).1 (rAll rask stop k c l).1 ∧
        match (askAll ask stop s l).2, (rAll rask stop k c l).2.2 with
        | .ok a, .ok b => a = b
        | .error a, .error b => a = b ∧ a ≠ 0
        | _, _ => False
  | [], s, k, c, _, h, _ => ⟨h, rfl⟩
  | q :: r, s, k, c, hi, h, hq => by
    have h1 := hs s k q hi h (hq q List.mem_cons_self)
    have h2 := (hg s q hi (hq q List.mem_cons_self)).1.inv
    unfold askAll rAll
    rcases he : ask s q with ⟨s1, r1⟩
    rcases hr : rask k q with ⟨k1, a⟩
    rw [he, hr] at h1
    rw [he] at h2
    cases r1 with
    | error e =>
      obtain ⟨h3, h4, h5⟩ := h1
      simp only at h3 h4 h5 ⊢
      rw [if_pos (by rw [h4]; exact h5)]
      exact ⟨h3, h4.symm, h5⟩
    | ok y =>
      obtain ⟨v, ch⟩ := y
      obtain ⟨h3, h4, h5⟩ := h1
      simp only at h3 h4 h5 h2 ⊢
      rw [if_neg (show ¬ (a.e ≠ 0) from fun h => h h5), h4]
      by_cases hst : stop = true ∧ v ≠ 0
      · rw [if_pos hst, if_pos hst]
        exact ⟨h3, rfl⟩
      · rw [if_neg hst, if_neg hst]
        have ih := askAll_sim hg hs stop r s1 k1 (capM (c + a.cost)) h2 h3 (fun p hp => hq p (List.mem_cons_of_mem _ hp))
        rcases ha : askAll ask stop s1 r with ⟨s2, r2⟩
        rcases hb : rAll rask stop k1 (capM (c + a.cost)) r with ⟨k2, c2, b2⟩
        rw [ha, hb] at ih
        cases r2 with
        | error e2 =>
          cases b2 with
          | error e3 =>
            obtain ⟨i1, i2, i3⟩ := ih
            exact ⟨i1, i2, i3⟩
          | ok _ => exact ih.2.elim
        | ok g2 =>
          cases b2 with
          | error _ => exact ih.2.elim
          | ok g3 =>
            obtain ⟨i1, i2⟩ := ih
            simp only at i2
            subst i2
            exact ⟨i1, rfl⟩
theorem evalR_sim {E : Env} {on : List Int} {ask : AskFn} {rask : RAsk} (hg : Good E on ask) (hs : SimAsk E on ask rask) {r : QRule} (hr : ROk E.rules.length r) {s : PS} {k : Known} (hi : PInv E on s) (h : Sim E s k) :
    Sim E (evalR ask s r).1 (rRule rask k r).1 ∧
      match (evalR ask s r).2 with
      | .ok (v, _) => (rRule rask k r).2.n = v ∧ (rRule rask k r).2.e = 0
      | .error c => (rRule rask k r).2.e = c ∧ c ≠ 0 := by
  unfold evalR rRule
  by_cases hk : r.kind = 3
  · rw [if_pos hk, if_pos hk]
    have hq0 := (pick_mem hr hk (v := 0) (Int.le_refl 0)).2
    have h1 := hs s k (r.asks.getD 0 0) hi h hq0
    have hgd := hg s (r.asks.getD 0 0) hi hq0
    rcases he : ask s (r.asks.getD 0 0) with ⟨s1, r1⟩
    rcases hra : rask k (r.asks.getD 0 0) with ⟨k1, a⟩
    rw [he, hra] at h1
    rw [he] at hgd
    cases r1 with
    | error e =>
      obtain ⟨h3, h4, h5⟩ := h1
      simp only at h3 h4 h5 ⊢
      rw [if_pos (by rw [h4]; exact h5)]
      exact ⟨h3, h4, h5⟩
    | ok y =>
      obtain ⟨v, ch⟩ := y
      obtain ⟨h3, h4, h5⟩ := h1
      simp only at h3 h4 h5 ⊢
      rw [if_neg (show ¬ (a.e ≠ 0) from fun h => h h5), h4]
      have hv := (hgd.2 v ch rfl).1
      have h2 := hs s1 k1 (pickOf r v) hgd.1.inv h3 (pick_mem hr hk hv).1
      rcases he2 : ask s1 (pickOf r v) with ⟨s2, r2⟩
      rcases hrb : rask k1 (pickOf r v) with ⟨k2, b⟩
      rw [he2, hrb] at h2
      cases r2 with
      | error e => exact h2
      | ok z => exact h2
  · rw [if_neg hk, if_neg hk]
    have h1 := askAll_sim hg hs (r.kind == 4) r.asks s k 1 hi h (fun q hq => hr.asks q hq)
    rcases ha : askAll ask (r.kind == 4) s r.asks with ⟨s1, r1⟩
    rcases hb : rAll rask (r.kind == 4) k 1 r.asks with ⟨k1, c1, b1⟩
    rw [ha, hb] at h1
    cases r1 with
    | error e =>
      cases b1 with
      | error e' =>
        obtain ⟨h3, h4, h5⟩ := h1
        exact ⟨h3, h4.symm, h5⟩
      | ok _ => exact h1.2.elim
    | ok got =>
      cases b1 with
      | error _ => exact h1.2.elim
      | ok got' =>
        obtain ⟨h3, h4⟩ := h1
        simp only at h4
        subst h4
        exact ⟨h3, rfl, rfl⟩
theorem Sim.put {E : Env} {s : PS} {k : Known} (h : Sim E s k) {q : Int} (hq : InQ E q) (hl : s.ans.length = E.rules.length) {kr : KeptR} (hc : kr.checked = E.rev) (c : Int) : Sim E (s.set q kr) (k.set q.toNat (some (kr.value, c))) := by
  have hlt : q.toNat < s.ans.length := by rw [hl]; have := hq.1; have := hq.2; omega
  have hltk : q.toNat < k.length := by rw [h.len]; have := hq.1; have := hq.2; omega
  have hk : ∀ p, InQ E p → (k.set q.toNat (some (kr.value, c))).getD p.toNat none = if p = q then some (kr.value, c) else k.getD p.toNat none := fun p hp => by
    rw [List.getD_eq_getElem?_getD, List.getElem?_set]
    by_cases e : p = q
    · subst e; rw [if_pos rfl, if_pos hltk, if_pos rfl]; rfl
    · rw [if_neg (by have := hp.1; have := hq.1; omega), if_neg e, List.getD_eq_getElem?_getD]
  have hg : ∀ p, InQ E p → (s.set q kr).get p = if p = q then some kr else s.get p := fun p hp => by
    by_cases e : p = q
    · subst e; rw [if_pos rfl]; exact get_set_self hlt
    · rw [if_neg e]; exact get_set_other hq.1 hp.1 e
  refine ⟨by rw [List.length_set]; exact h.len, fun p hp x hx => ?_, fun p hp x hx => ?_, fun p hp hx => ?_⟩
  · rw [hg p hp] at hx
    split at hx
    · injection hx with hx; rw [← hx]; exact hc
    · exact h.chk p hp x hx
  · rw [hg p hp] at hx
    rw [hk p hp]
    split at hx
    · rename_i e; rw [if_pos e]; injection hx with hx; exact ⟨c, by rw [← hx]⟩
    · rename_i e; rw [if_neg e]; exact h.some_ p hp x hx
  · rw [hg p hp] at hx
    rw [hk p hp]
    split at hx
    · cases hx
    · rename_i e; rw [if_neg e]; exact h.none_ p hp hx
theorem rAsk_sim {E : Env} (hE : EnvOk E) (hm : E.most = E.rules.length) : ∀ (f : Nat) (on : List Int), SimAsk E on (askF E f on) (rAsk E.rules E.inp f on)
  | 0, on, s, k, q, hi, h, hq => ⟨h, rfl, by decide⟩
  | f + 1, on, s, k, q, hi, h, hq => by
    unfold askF rAsk
    have hrule : E.rules.getD q.toNat default = E.rule q := rfl
    rw [hrule]
    by_cases hk : (E.rule q).kind = 1
    · rw [if_pos hk, if_pos hk]
      exact ⟨h, rfl, rfl⟩
    rw [if_neg hk, if_neg hk]
    by_cases hon : q ∈ on
    · rw [if_pos hon, if_pos hon]
      exact ⟨h, rfl, by decide⟩
    rw [if_neg hon, if_neg hon]
    cases hg : s.get q with
    | some kr =>
      obtain ⟨c, hc⟩ := h.some_ q hq kr hg
      simp only [hc, if_pos (h.chk q hq kr hg)]
      exact ⟨h, rfl, rfl⟩
    | none =>
      have hn := h.none_ q hq hg
      simp only [hn]
      have hi' := hi.open_ hq hon (fun kr hkr => by rw [hg] at hkr; cases hkr)
      have hG := askF_good hE f (q :: on)
      have hr := hE.rok _ (rule_mem hq)
      have h1 := evalR_sim hG (rAsk_sim hE hm f (q :: on)) hr hi' h
      have h2 := (evalR_good hE hG hr hi').1.inv
      unfold workF
      rcases he : evalR (askF E f (q :: on)) s (E.rule q) with ⟨s1, r1⟩
      rcases hb : rRule (rAsk E.rules E.inp f (q :: on)) k (E.rule q) with ⟨k1, a⟩
      rw [he, hb] at h1
      rw [he] at h2
      cases r1 with
      | error e =>
        obtain ⟨h3, h4, h5⟩ := h1
        simp only at h3 h4 ⊢
        rw [if_neg (by rw [h4]; exact h5)]
        exact ⟨h3, h4, h5⟩
      | ok y =>
        obtain ⟨v, asked⟩ := y
        obtain ⟨h3, h4, h5⟩ := h1
        simp only at h3 h4 h5 h2 ⊢
        have hq1 : q ∉ s1.done := fun hd => by
          obtain ⟨_, kr, hkr, hc⟩ := h2.dok q hd
          exact h2.onk q List.mem_cons_self kr hkr hc
        have hlen := nodup_length (n := E.rules.length) (l := q :: s1.done) (List.nodup_cons.2 ⟨hq1, h2.dnd⟩) (fun p hp => by
          rcases List.mem_cons.1 hp with rfl | hp
          · exact hq
          · exact (h2.dok p hp).1)
        rw [List.length_cons] at hlen
        rw [if_neg (by rw [hm]; omega), if_pos h5]
        refine ⟨?_, h4, h5⟩
        have h3' : Sim E ({ s1 with done := s1.done ++ [q] } : PS) k1 := ⟨h3.len, h3.chk, h3.some_, h3.none_⟩
        rw [h4]
        exact h3'.put hq h2.alen (kr := ⟨v, asked, E.rev, chOf E.rev none v⟩) rfl a.cost
end Go.Proofs.QM
