/-
  What an engine keeps is right: whatever was set, asked and forgotten before, asking comes to the value for the inputs as they are. No program in sight. No condition.
-/
import Derived.Test.YtohpkolkagddiaaDoorQ39
namespace Go.Proofs.QM
set_option linter.unusedVariables false

abbrev Hist := Int → List Int
/-- What shows of a question: its value, and when it changed. -/
def Has (E : Env) (s : PS) (a v ch : Int) : Prop := ((E.rule a).kind = 1 ∧ v = E.inp.getD a.toNat 0 ∧ ch = E.inpCh.getD a.toNat 0) ∨ ((E.rule a).kind ≠ 1 ∧ ∃ k, s.get a = some k ∧ k.value = v ∧ k.changed = ch)
/-- The same, checked in this revision. -/
def Cur (E : Env) (s : PS) (a v ch : Int) : Prop := ((E.rule a).kind = 1 ∧ v = E.inp.getD a.toNat 0 ∧ ch = E.inpCh.getD a.toNat 0) ∨ ((E.rule a).kind ≠ 1 ∧ ∃ k, s.get a = some k ∧ k.checked = E.rev ∧ k.value = v ∧ k.changed = ch)
structure HInv (E : Env) (hist : Hist) (s : PS) : Prop where
  now : hist E.rev = E.inp
  le : ∀ q k, InQ E q → s.get q = some k → k.checked ≤ E.rev
  tr : ∀ q k, InQ E q → s.get q = some k → ∃ f, pvRule (pv E.rules (hist k.checked) f) (E.rule q) = some (k.value, k.asked)
  chg : ∀ p kp, InQ E p → s.get p = some kp → ∀ a ∈ kp.asked, ∀ v ch, Has E s a v ch → ch ≤ kp.checked → Val E.rules (hist kp.checked) a v
  nin : ∀ q k, InQ E q → s.get q = some k → (E.rule q).kind ≠ 1
  asked : ∀ q k, InQ E q → s.get q = some k → ∀ a ∈ k.asked, InQ E a
def Stay (E : Env) (s s' : PS) : Prop := ∀ p k, InQ E p → s.get p = some k → k.checked = E.rev → s'.get p = some k
theorem Stay.refl {E : Env} (s : PS) : Stay E s s := fun _ _ _ h _ => h
theorem Stay.trans {E : Env} {a b c : PS} (h : Stay E a b) (k : Stay E b c) : Stay E a c := fun p kp hp hk hc => k p kp hp (h p kp hp hk hc) hc
theorem Cur.stay {E : Env} {s s' : PS} {a v ch : Int} (h : Cur E s a v ch) (ha : InQ E a) (hs : Stay E s s') : Cur E s' a v ch := by
  rcases h with h | ⟨h, k, h1, h2, h3, h4⟩
  · exact .inl h
  · exact .inr ⟨h, k, hs a k ha h1 h2, h2, h3, h4⟩
theorem Cur.has {E : Env} {s : PS} {a v ch : Int} (h : Cur E s a v ch) : Has E s a v ch := by
  rcases h with h | ⟨h, k, h1, h2, h3, h4⟩
  · exact .inl h
  · exact .inr ⟨h, k, h1, h3, h4⟩
/-- Every open question needs q's value for its own. -/
def Low (E : Env) (on : List Int) (q : Int) : Prop := ∀ p ∈ on, ∀ f v, pv E.rules E.inp f p = some v → ∃ g, g < f ∧ (pv E.rules E.inp g q).isSome = true
def LowR (E : Env) (on : List Int) (r : QRule) : Prop := ∀ p ∈ on, ∀ f v, pv E.rules E.inp f p = some v → ∃ g, g < f ∧ (pvRule (pv E.rules E.inp g) r).isSome = true
def LowAll (E : Env) (on : List Int) (stop : Bool) (l : List Int) : Prop := ∀ p ∈ on, ∀ f v, pv E.rules E.inp f p = some v → ∃ g, g < f ∧ (pvAll (pv E.rules E.inp g) stop l).isSome = true
theorem Low.rule {E : Env} {on : List Int} {q : Int} (h : Low E on q) (hk : (E.rule q).kind ≠ 1) : LowR E (q :: on) (E.rule q) := fun p hp f v hv => by
  rcases List.mem_cons.1 hp with rfl | hp
  · exact pv_down hk hv
  · obtain ⟨g, hg, hs⟩ := h p hp f v hv
    obtain ⟨x, hx⟩ := Option.isSome_iff_exists.1 hs
    obtain ⟨g', hg', hs'⟩ := pv_down hk hx
    exact ⟨g', by omega, hs'⟩
def Bad (e : Int) (P : Prop) : Prop := e = 13 ∨ (e = 8 ∧ P)
def AskH (E : Env) (hist : Hist) (on : List Int) (ask : AskFn) : Prop :=
  ∀ s q, PInv E on s → HInv E hist s → InQ E q → Low E on q → HInv E hist (ask s q).1 ∧ Stay E s (ask s q).1 ∧
    (∀ v ch, (ask s q).2 = .ok (v, ch) → Val E.rules E.inp q v ∧ Cur E (ask s q).1 q v ch) ∧ ∀ e, (ask s q).2 = .error e → Bad e (∀ f, pv E.rules E.inp f q = none)
theorem none_of {α : Type} {o : Option α} (h : ¬ o.isSome = true) : o = none := by cases o with | none => rfl | some x => exact absurd rfl h
section
variable {E : Env} {hist : Hist} {on : List Int} {ask : AskFn}
theorem askAll_h (hg : Good E on ask) (ha : AskH E hist on ask) (stop : Bool) : ∀ (l : List Int) (s : PS), PInv E on s → HInv E hist s → (∀ q ∈ l, InQ E q) → LowAll E on stop l →
    HInv E hist (askAll ask stop s l).1 ∧ Stay E s (askAll ask stop s l).1 ∧
      (∀ got, (askAll ask stop s l).2 = .ok got → (∃ F, pvAll (pv E.rules E.inp F) stop l = some got) ∧ ∀ a ∈ l.take got.length, ∃ v ch, Cur E (askAll ask stop s l).1 a v ch) ∧
      ∀ e, (askAll ask stop s l).2 = .error e → Bad e (∀ f, pvAll (pv E.rules E.inp f) stop l = none)
  | [], s, _, hs, _, _ => ⟨hs, Stay.refl s, fun got h => by simp [askAll] at h; subst h; exact ⟨⟨0, rfl⟩, fun a h => by simp at h⟩, fun e h => by simp [askAll] at h⟩
  | q :: r, s, hp, hs, hq, hl => by
    have hqq := hq q List.mem_cons_self
    have hlow : Low E on q := fun p hp f v hv => by
      obtain ⟨g, hg, hs⟩ := hl p hp f v hv
      refine ⟨g, hg, ?_⟩
      unfold pvAll at hs
      cases hgq : pv E.rules E.inp g q with
      | none => rw [hgq] at hs; simp at hs
      | some x => rfl
    obtain ⟨h1, h2, h3, h4⟩ := ha s q hp hs hqq hlow
    have hst := (hg s q hp hqq).1
    unfold askAll
    rcases hr : ask s q with ⟨s1, r1⟩
    rw [hr] at h1 h2 h3 h4 hst
    cases r1 with
    | error e =>
      refine ⟨h1, h2, fun got h => (by cases h), fun e' h => ?_⟩
      injection h with h
      subst h
      rcases h4 e rfl with h | ⟨h, hn⟩
      · exact .inl h
      · exact .inr ⟨h, fun f => by unfold pvAll; rw [hn f]⟩
    | ok x =>
      obtain ⟨v, ch⟩ := x
      obtain ⟨⟨fa, hfa⟩, hcur⟩ := h3 v ch rfl
      simp only at h1 h2 hcur ⊢
      by_cases hstop : stop = true ∧ v ≠ 0
      · rw [if_pos hstop]
        refine ⟨h1, h2, fun got h => ?_, fun e h => (by cases h)⟩
        injection h with h
        subst h
        refine ⟨⟨fa, ?_⟩, fun a ha => ?_⟩
        · unfold pvAll; rw [hfa]; simp only [if_pos hstop]
        · simp at ha; subst ha; exact ⟨v, ch, hcur⟩
      · rw [if_neg hstop]
        have hlow2 : LowAll E on stop r := fun p hp f w hv => by
          obtain ⟨g, hg, hs⟩ := hl p hp f w hv
          refine ⟨g, hg, ?_⟩
          unfold pvAll at hs
          cases hgq : pv E.rules E.inp g q with
          | none => rw [hgq] at hs; simp at hs
          | some x =>
            have hx : x = v := pv_unique hgq hfa
            subst hx
            rw [hgq] at hs
            simp only [if_neg hstop, Option.isSome_map] at hs
            exact hs
        have ih := askAll_h hg ha stop r s1 hst.inv h1 (fun x hx => hq x (List.mem_cons_of_mem _ hx)) hlow2
        rcases hr2 : askAll ask stop s1 r with ⟨s2, r2⟩
        rw [hr2] at ih
        obtain ⟨i1, i2, i3, i4⟩ := ih
        cases r2 with
        | error e =>
          refine ⟨i1, h2.trans i2, fun got h => (by cases h), fun e' h => ?_⟩
          injection h with h
          subst h
          rcases i4 e rfl with h | ⟨h, hn⟩
          · exact .inl h
          · refine .inr ⟨h, fun f => ?_⟩
            unfold pvAll
            cases hgq : pv E.rules E.inp f q with
            | none => rfl
            | some x =>
              have hx : x = v := pv_unique hgq hfa
              subst hx
              simp only [if_neg hstop, hn f, Option.map_none]
        | ok vs =>
          refine ⟨i1, h2.trans i2, fun got h => ?_, fun e h => (by cases h)⟩
          injection h with h
          subst h
          obtain ⟨⟨F, hF⟩, hc⟩ := i3 vs rfl
          refine ⟨⟨max fa F, ?_⟩, fun a ha => ?_⟩
          · unfold pvAll
            rw [pv_mono (Nat.le_max_left fa F) hfa]
            simp only [if_neg hstop]
            rw [pvAll_mono (Nat.le_max_right fa F) hF]
            rfl
          · simp at ha
            rcases ha with rfl | ha
            · exact ⟨v, ch, hcur.stay hqq i2⟩
            · exact hc a ha
theorem evalR_h (hE : EnvOk E) (hg : Good E on ask) (ha : AskH E hist on ask) {r : QRule} (hr : ROk E.rules.length r) {s : PS} (hp : PInv E on s) (hs : HInv E hist s) (hl : LowR E on r) :
    HInv E hist (evalR ask s r).1 ∧ Stay E s (evalR ask s r).1 ∧
      (∀ v asked, (evalR ask s r).2 = .ok (v, asked) → (∃ F, pvRule (pv E.rules E.inp F) r = some (v, asked)) ∧ ∀ a ∈ asked, ∃ v ch, Cur E (evalR ask s r).1 a v ch) ∧
      ∀ e, (evalR ask s r).2 = .error e → Bad e (∀ f, pvRule (pv E.rules E.inp f) r = none) := by
  unfold evalR
  by_cases hk : r.kind = 3
  · rw [if_pos hk]
    have hq0 := (pick_mem (E := E) (v := 0) hr hk (by omega)).2
    have hlow : Low E on (r.asks.getD 0 0) := fun p hp f v hv => by
      obtain ⟨g, hg, hs⟩ := hl p hp f v hv
      refine ⟨g, hg, ?_⟩
      unfold pvRule at hs
      rw [if_pos hk] at hs
      cases hgq : pv E.rules E.inp g (r.asks.getD 0 0) with
      | none => rw [hgq] at hs; simp at hs
      | some x => rfl
    obtain ⟨h1, h2, h3, h4⟩ := ha s _ hp hs hq0 hlow
    have hgd := hg s _ hp hq0
    rcases hr1 : ask s (r.asks.getD 0 0) with ⟨s1, r1⟩
    rw [hr1] at h1 h2 h3 h4 hgd
    cases r1 with
    | error e =>
      refine ⟨h1, h2, fun _ _ h => (by cases h), fun e' h => ?_⟩
      injection h with h
      subst h
      rcases h4 e rfl with h | ⟨h, hn⟩
      · exact .inl h
      · exact .inr ⟨h, fun f => by unfold pvRule; rw [if_pos hk, hn f]⟩
    | ok x =>
      obtain ⟨v, ch⟩ := x
      obtain ⟨⟨fa, hfa⟩, hcur⟩ := h3 v ch rfl
      have hv := (hgd.2 v ch rfl).1
      have hqp := (pick_mem (E := E) hr hk hv).1
      have hlow2 : Low E on (pickOf r v) := fun p hp f w hw => by
        obtain ⟨g, hg, hs⟩ := hl p hp f w hw
        refine ⟨g, hg, ?_⟩
        unfold pvRule at hs
        rw [if_pos hk] at hs
        cases hgq : pv E.rules E.inp g (r.asks.getD 0 0) with
        | none => rw [hgq] at hs; simp at hs
        | some x =>
          have hx : x = v := pv_unique hgq hfa
          subst hx
          rw [hgq] at hs
          simp only [Option.isSome_map] at hs
          exact hs
      obtain ⟨g1, g2, g3, g4⟩ := ha s1 _ hgd.1.inv h1 hqp hlow2
      simp only at h1 h2 hcur ⊢
      rcases hr2 : ask s1 (pickOf r v) with ⟨s2, r2⟩
      rw [hr2] at g1 g2 g3 g4
      cases r2 with
      | error e =>
        refine ⟨g1, h2.trans g2, fun _ _ h => (by cases h), fun e' h => ?_⟩
        injection h with h
        subst h
        rcases g4 e rfl with h | ⟨h, hn⟩
        · exact .inl h
        · refine .inr ⟨h, fun f => ?_⟩
          unfold pvRule
          rw [if_pos hk]
          cases hgq : pv E.rules E.inp f (r.asks.getD 0 0) with
          | none => rfl
          | some x =>
            have hx : x = v := pv_unique hgq hfa
            subst hx
            simp only [hn f, Option.map_none]
      | ok y =>
        obtain ⟨u, d⟩ := y
        obtain ⟨⟨fb, hfb⟩, hcur2⟩ := g3 u d rfl
        refine ⟨g1, h2.trans g2, fun v' asked h => ?_, fun e h => (by cases h)⟩
        injection h with h; injection h with h5 h6; subst h5; subst h6
        refine ⟨⟨max fa fb, ?_⟩, fun a ha => ?_⟩
        · unfold pvRule
          rw [if_pos hk, pv_mono (Nat.le_max_left fa fb) hfa]
          simp only
          rw [pv_mono (Nat.le_max_right fa fb) hfb]
          rfl
        · simp only [List.mem_cons, List.not_mem_nil, or_false] at ha
          rcases ha with rfl | rfl
          · exact ⟨v, ch, hcur.stay hq0 g2⟩
          · exact ⟨u, d, hcur2⟩
  · rw [if_neg hk]
    have hlow : LowAll E on (r.kind == 4) r.asks := fun p hp f v hv => by
      obtain ⟨g, hg, hs⟩ := hl p hp f v hv
      refine ⟨g, hg, ?_⟩
      unfold pvRule at hs
      rwa [if_neg hk, Option.isSome_map] at hs
    obtain ⟨h1, h2, h3, h4⟩ := askAll_h hg ha (r.kind == 4) r.asks s hp hs (fun q hq => hr.asks q hq) hlow
    rcases hr1 : askAll ask (r.kind == 4) s r.asks with ⟨s1, r1⟩
    rw [hr1] at h1 h2 h3 h4
    cases r1 with
    | error e =>
      refine ⟨h1, h2, fun _ _ h => (by cases h), fun e' h => ?_⟩
      injection h with h
      subst h
      rcases h4 e rfl with h | ⟨h, hn⟩
      · exact .inl h
      · exact .inr ⟨h, fun f => by unfold pvRule; rw [if_neg hk, hn f]; rfl⟩
    | ok got =>
      obtain ⟨⟨F, hF⟩, hc⟩ := h3 got rfl
      refine ⟨h1, h2, fun v asked h => ?_, fun e h => (by cases h)⟩
      injection h with h; injection h with h5 h6; subst h5; subst h6
      exact ⟨⟨F, by unfold pvRule; rw [if_neg hk, hF]; rfl⟩, hc⟩
/-- Whether a kept answer stands: it does not, as something that it asked has changed; or all that it asked has the values that it had. -/
theorem staleF_h (hg : Good E on ask) (ha : AskH E hist on ask) {q : Int} {k : KeptR} (hq : InQ E q) (hqo : q ∈ on) {F : Nat} (htr : pvRule (pv E.rules (hist k.checked) F) (E.rule q) = some (k.value, k.asked)) (hl : LowR E on (E.rule q)) (hk : (E.rule q).kind ≠ 1) :
    ∀ (l pre : List Int) (s : PS), k.asked = pre ++ l → PInv E on s → HInv E hist s → s.get q = some k → (∀ a ∈ pre, ∃ v ch, Val E.rules E.inp a v ∧ pv E.rules (hist k.checked) F a = some v ∧ Cur E s a v ch) →
      HInv E hist (staleF ask k.checked s l).1 ∧ Stay E s (staleF ask k.checked s l).1 ∧
      ((staleF ask k.checked s l).2 = .ok false → ∀ a ∈ k.asked, ∃ v ch, Val E.rules E.inp a v ∧ pv E.rules (hist k.checked) F a = some v ∧ Cur E (staleF ask k.checked s l).1 a v ch) ∧
      ((staleF ask k.checked s l).2 = .ok true → ∃ a ∈ k.asked, ∃ v ch, Cur E (staleF ask k.checked s l).1 a v ch ∧ k.checked < ch) ∧
      ∀ e, (staleF ask k.checked s l).2 = .error e → Bad e (∀ f, pv E.rules E.inp f q = none)
  | [], pre, s, hpre, _, hs, _, hagree => ⟨hs, Stay.refl s, fun _ a ham => hagree a (by rw [hpre, List.append_nil] at ham; exact ham), fun h => (by simp [staleF] at h), fun e h => (by simp [staleF] at h)⟩
  | a :: r, pre, s, hpre, hp, hs, hget, hagree => by
    have ham : a ∈ k.asked := by rw [hpre]; simp
    have haq : InQ E a := hs.asked q k hq hget a ham
    have hnext : ∀ g, (pvRule (pv E.rules E.inp g) (E.rule q)).isSome = true → (pv E.rules E.inp g a).isSome = true := fun g hgs => by
      have hn : pre.length < k.asked.length := by rw [hpre]; simp
      have hget0 : ∀ i, i < pre.length → k.asked.getD i 0 = pre.getD i 0 := fun i hi => by rw [hpre, List.getD_eq_getElem?_getD, List.getElem?_append_left hi, List.getD_eq_getElem?_getD]
      have := pvRule_next htr hgs pre.length hn (fun i hi u hu => by
        rw [hget0 i hi] at hu ⊢
        have hm : pre.getD i 0 ∈ pre := by rw [List.getD_eq_getElem?_getD, List.getElem?_eq_getElem hi]; exact List.getElem_mem hi
        obtain ⟨v, ch, ⟨f, hf⟩, h2, _⟩ := hagree _ hm
        rw [pv_unique hu hf]; exact h2)
      rwa [show k.asked.getD pre.length 0 = a by rw [hpre, List.getD_eq_getElem?_getD, List.getElem?_append_right (Nat.le_refl _)]; simp] at this
    have hlow : Low E on a := fun p hpo f v hv => by
      obtain ⟨g, hg', hs'⟩ := hl p hpo f v hv
      exact ⟨g, hg', hnext g hs'⟩
    obtain ⟨h1, h2, h3, h4⟩ := ha s a hp hs haq hlow
    have hst := (hg s a hp haq).1
    unfold staleF
    rcases hr : ask s a with ⟨s1, r1⟩
    rw [hr] at h1 h2 h3 h4 hst
    cases r1 with
    | error e =>
      refine ⟨h1, h2, fun h => (by cases h), fun h => (by cases h), fun e' h => ?_⟩
      injection h with h
      subst h
      rcases h4 e rfl with h | ⟨h, hn⟩
      · exact .inl h
      · refine .inr ⟨h, fun f => ?_⟩
        refine none_of (fun hsome => ?_)
        obtain ⟨x, hx⟩ := Option.isSome_iff_exists.1 hsome
        obtain ⟨g, _, hgs⟩ := pv_down hk hx
        have := hnext g hgs
        rw [hn g] at this
        cases this
    | ok x =>
      obtain ⟨v, ch⟩ := x
      obtain ⟨hval, hcur⟩ := h3 v ch rfl
      have hgetq : s1.get q = some k := (hst.fix q hqo).trans hget
      simp only at h1 h2 hcur ⊢
      by_cases hc : k.checked < ch
      · rw [if_pos hc]
        exact ⟨h1, h2, fun h => (by simp at h), fun _ => ⟨a, ham, v, ch, hcur, hc⟩, fun e h => (by cases h)⟩
      · rw [if_neg hc]
        obtain ⟨f', hf'⟩ := h1.chg q k hq hgetq a ham v ch hcur.has (by omega)
        obtain ⟨w, hw⟩ := pvRule_some htr a ham
        have hwv : w = v := pv_unique hw hf'
        subst hwv
        have ih := staleF_h hg ha hq hqo htr hl hk r (pre ++ [a]) s1 (by rw [hpre]; simp) hst.inv h1 hgetq (fun b hb => by
          rcases List.mem_append.1 hb with hb | hb
          · obtain ⟨v', ch', e1, e2, e3⟩ := hagree b hb
            exact ⟨v', ch', e1, e2, e3.stay (hs.asked q k hq hget b (by rw [hpre]; simp [hb])) h2⟩
          · rw [List.mem_singleton.1 hb]; exact ⟨w, ch, hval, hw, hcur⟩)
        obtain ⟨i1, i2, i3, i4, i5⟩ := ih
        exact ⟨i1, h2.trans i2, i3, i4, i5⟩
end
theorem pvinp {E : Env} {a : Int} (hk : (E.rule a).kind = 1) : Val E.rules E.inp a (E.inp.getD a.toNat 0) := ⟨1, pv_input hk 0⟩
/-- A question gets its kept answer, checked now. -/
theorem HInv.put {E : Env} {hist : Hist} {on : List Int} {s : PS} {q : Int} {v ch : Int} {asked : List Int} (h : HInv E hist s) (hp : PInv E (q :: on) s) (hk : (E.rule q).kind ≠ 1) {F : Nat} (hv : pvRule (pv E.rules E.inp F) (E.rule q) = some (v, asked)) (hin : ∀ a ∈ asked, InQ E a)
    (hcur : ∀ a ∈ asked, ∃ v ch, Cur E s a v ch) (hch : ch = E.rev ∨ ∃ k0, s.get q = some k0 ∧ k0.value = v ∧ k0.changed = ch) : HInv E hist (s.set q ⟨v, asked, E.rev, ch⟩) := by
  have hq := hp.onq q List.mem_cons_self
  have hlt : q.toNat < s.ans.length := by rw [hp.alen]; have := hq.1; have := hq.2; omega
  have hself : (s.set q ⟨v, asked, E.rev, ch⟩).get q = some ⟨v, asked, E.rev, ch⟩ := get_set_self hlt
  have hother : ∀ p, InQ E p → p ≠ q → (s.set q ⟨v, asked, E.rev, ch⟩).get p = s.get p := fun p hp hne => get_set_other hq.1 hp.1 hne
  have hvq : Val E.rules E.inp q v := ⟨F + 1, by rw [pv_rule (q := q) hk]; show Option.map _ (pvRule _ (E.rule q)) = _; rw [hv]; rfl⟩
  refine ⟨h.now, fun p k hpq hg => ?_, fun p k hpq hg => ?_, fun p kp hpq hg a ha va cha hhas hle => ?_, fun p k hpq hg => ?_, fun p k hpq hg => ?_⟩
  · by_cases e : p = q
    · subst e; rw [hself] at hg; injection hg with hg; subst hg; exact Int.le_refl _
    · rw [hother p hpq e] at hg; exact h.le p k hpq hg
  · by_cases e : p = q
    · subst e; rw [hself] at hg; injection hg with hg; subst hg
      exact ⟨F, by rw [h.now]; exact hv⟩
    · rw [hother p hpq e] at hg; exact h.tr p k hpq hg
  · by_cases e : p = q
    · subst e
      rw [hself] at hg; injection hg with hg; subst hg
      have haq := hin a ha
      show Val E.rules (hist E.rev) a va
      rw [h.now]
      rcases hhas with ⟨hi, rfl, _⟩ | ⟨hi, ka, hka, rfl, _⟩
      · exact pvinp hi
      · by_cases e2 : a = p
        · subst e2; rw [hself] at hka; injection hka with hka; subst hka; exact hvq
        · rw [hother a haq e2] at hka
          obtain ⟨v1, ch1, hc⟩ := hcur a ha
          rcases hc with ⟨hi', _⟩ | ⟨_, ka', hka', hck, _, _⟩
          · exact absurd hi' hi
          · rw [hka] at hka'; injection hka' with hka'; subst hka'
            obtain ⟨f, hf⟩ := h.tr a ka haq hka
            rw [hck, h.now] at hf
            exact ⟨f + 1, by rw [pv_rule (q := a) hi]; show Option.map _ (pvRule _ (E.rule a)) = _; rw [hf]; rfl⟩
    · rw [hother p hpq e] at hg
      have haq := h.asked p kp hpq hg a ha
      by_cases e2 : a = q
      · subst e2
        rcases hhas with ⟨hi, _⟩ | ⟨hi, ka, hka, rfl, rfl⟩
        · exact absurd hi hk
        · rw [hself] at hka; injection hka with hka; subst hka
          rcases hch with rfl | ⟨k0, h0, h1, h2⟩
          · have h3 := h.le p kp hpq hg
            have h4 : kp.checked = E.rev := by have : E.rev ≤ kp.checked := hle; omega
            rw [h4, h.now]; exact hvq
          · exact h.chg p kp hpq hg a ha v ch (.inr ⟨hi, k0, h0, h1, h2⟩) hle
      · refine h.chg p kp hpq hg a ha va cha ?_ hle
        rcases hhas with hi | ⟨hi, ka, hka, h1, h2⟩
        · exact .inl hi
        · exact .inr ⟨hi, ka, by rw [hother a haq e2] at hka; exact hka, h1, h2⟩
  · by_cases e : p = q
    · subst e; exact hk
    · rw [hother p hpq e] at hg; exact h.nin p k hpq hg
  · by_cases e : p = q
    · subst e; rw [hself] at hg; injection hg with hg; subst hg; exact hin
    · rw [hother p hpq e] at hg; exact h.asked p k hpq hg
theorem HInv.done {E : Env} {hist : Hist} {s : PS} (h : HInv E hist s) (d : List Int) : HInv E hist { s with done := d } := ⟨h.now, h.le, h.tr, h.chg, h.nin, h.asked⟩
theorem Stay.put {E : Env} {on : List Int} {s s1 : PS} {q : Int} {k : KeptR} (h : Stay E s s1) (hp : PInv E (q :: on) s) (h1 : q.toNat < s1.ans.length) (d : List Int) : Stay E s (({ s1 with done := d } : PS).set q k) := fun p kp hpq hg hc => by
  have hq := hp.onq q List.mem_cons_self
  have e : p ≠ q := fun e => hp.onk q List.mem_cons_self kp (e ▸ hg) hc
  rw [get_set_other hq.1 hpq.1 e]
  exact h p kp hpq hg hc
theorem workF_h {E : Env} (hE : EnvOk E) {hist : Hist} {on : List Int} {ask : AskFn} {q : Int} (hg : Good E (q :: on) ask) (ha : AskH E hist (q :: on) ask) (hq : InQ E q) (hk : (E.rule q).kind ≠ 1) {s0 s : PS} {was : Option KeptR} (hw : s.get q = was) (hp0 : PInv E (q :: on) s0) (hp : PInv E (q :: on) s) (hs : HInv E hist s) (hst : Stay E s0 s) (hl : LowR E (q :: on) (E.rule q)) :
    HInv E hist (workF E ask s q was).1 ∧ Stay E s0 (workF E ask s q was).1 ∧
      (∀ v ch, (workF E ask s q was).2 = .ok (v, ch) → Val E.rules E.inp q v ∧ Cur E (workF E ask s q was).1 q v ch) ∧ ∀ e, (workF E ask s q was).2 = .error e → Bad e (∀ f, pv E.rules E.inp f q = none) := by
  have hr := hE.rok _ (rule_mem hq)
  obtain ⟨h1, h2, h3, h4⟩ := evalR_h hE hg ha hr hp hs hl
  have hgd := evalR_good hE hg hr hp
  unfold workF
  rcases he : evalR ask s (E.rule q) with ⟨s1, r1⟩
  rw [he] at h1 h2 h3 h4 hgd
  cases r1 with
  | error e =>
    refine ⟨h1, hst.trans h2, fun _ _ h => (by cases h), fun e' h => ?_⟩
    injection h with h
    subst h
    rcases h4 e rfl with h | ⟨h, hn⟩
    · exact .inl h
    · refine .inr ⟨h, fun f => ?_⟩
      cases f with
      | zero => rfl
      | succ f => rw [pv_rule (q := q) hk]; show Option.map _ (pvRule _ (E.rule q)) = _; rw [hn f]; rfl
  | ok x =>
    obtain ⟨v, asked⟩ := x
    obtain ⟨⟨F, hF⟩, hc⟩ := h3 v asked rfl
    obtain ⟨_, hin, _⟩ := hgd.2 v asked rfl
    simp only at h1 h2 hc ⊢
    have hi := hgd.1.inv
    have hlt : q.toNat < s1.ans.length := by rw [hi.alen]; have := hq.1; have := hq.2; omega
    by_cases hm : E.most ≤ s1.done.length
    · rw [if_pos hm]
      exact ⟨h1, hst.trans h2, fun _ _ h => (by cases h), fun e h => .inl (by injection h with h; exact h.symm)⟩
    · rw [if_neg hm]
      have hget : s1.get q = was := (hgd.1.fix q List.mem_cons_self).trans hw
      refine ⟨?_, (hst.trans h2).put hp0 hlt _, fun v' ch' h => ?_, fun e h => (by cases h)⟩
      · refine (h1.put (on := on) hi hk hF hin hc ?_).done _
        unfold chOf
        cases was with
        | none => exact .inl rfl
        | some k =>
          simp only
          by_cases hv : k.value = v
          · rw [if_pos hv]; exact .inr ⟨k, hget, hv, rfl⟩
          · rw [if_neg hv]; exact .inl rfl
      · injection h with h; injection h with h5 h6; subst h5; subst h6
        refine ⟨⟨F + 1, by rw [pv_rule (q := q) hk]; show Option.map _ (pvRule _ (E.rule q)) = _; rw [hF]; rfl⟩, .inr ⟨hk, _, get_set_self (s := ({ s1 with done := s1.done ++ [q] } : PS)) hlt, rfl, rfl, rfl⟩⟩
/-- ASKING IS RIGHT. -/
theorem askF_h {E : Env} (hE : EnvOk E) {hist : Hist} : ∀ (f : Nat) (on : List Int), E.rules.length + 1 ≤ f + on.length → AskH E hist on (askF E f on)
  | 0, on, hf => fun s q hp _ _ _ => by have := hp.onlen; omega
  | f + 1, on, hf => fun s q hp hs hq hlow => by
    unfold askF
    by_cases hk : (E.rule q).kind = 1
    · rw [if_pos hk]
      refine ⟨hs, Stay.refl s, fun v ch h => ?_, fun e h => (by cases h)⟩
      injection h with h; injection h with h1 h2; subst h1; subst h2
      exact ⟨pvinp hk, .inl ⟨hk, rfl, rfl⟩⟩
    rw [if_neg hk]
    by_cases hon : q ∈ on
    · rw [if_pos hon]
      refine ⟨hs, Stay.refl s, fun v ch h => (by cases h), fun e h => .inr ⟨by injection h with h; exact h.symm, fun f => ?_⟩⟩
      induction f using Nat.strongRecOn with
      | ind f ih =>
        refine none_of (fun hsome => ?_)
        obtain ⟨x, hx⟩ := Option.isSome_iff_exists.1 hsome
        obtain ⟨g, hg, hgs⟩ := hlow q hon f x hx
        rw [ih g hg] at hgs
        cases hgs
    rw [if_neg hon]
    have hG := askF_good hE f (q :: on)
    have hA := askF_h hE (hist := hist) f (q :: on) (by simp; omega)
    have hl := hlow.rule hk
    cases hg : s.get q with
    | none =>
      have hp' := hp.open_ hq hon (fun k h => by rw [hg] at h; cases h)
      exact workF_h hE hG hA hq hk hg hp' hp' hs (Stay.refl s) hl
    | some k =>
      simp only
      by_cases hc : k.checked = E.rev
      · rw [if_pos hc]
        refine ⟨hs, Stay.refl s, fun v ch h => ?_, fun e h => (by cases h)⟩
        injection h with h; injection h with h1 h2; subst h1; subst h2
        obtain ⟨F, hF⟩ := hs.tr q k hq hg
        rw [hc, hs.now] at hF
        exact ⟨⟨F + 1, by rw [pv_rule (q := q) hk]; show Option.map _ (pvRule _ (E.rule q)) = _; rw [hF]; rfl⟩, .inr ⟨hk, k, hg, hc, rfl, rfl⟩⟩
      · rw [if_neg hc]
        have hp' := hp.open_ hq hon (fun k' h => by rw [hg] at h; injection h with h; exact h ▸ hc)
        obtain ⟨F, hF⟩ := hs.tr q k hq hg
        obtain ⟨h1, h2, h3, _, h5⟩ := staleF_h hG hA hq List.mem_cons_self hF hl hk k.asked [] s rfl hp' hs hg (fun a h => by cases h)
        have hsg := staleF_good hG k.checked k.asked s hp' (hs.asked q k hq hg)
        rcases he : staleF (askF E f (q :: on)) k.checked s k.asked with ⟨s1, r1⟩
        rw [he] at h1 h2 h3 h5 hsg
        have hgq : s1.get q = some k := (hsg.fix q List.mem_cons_self).trans hg
        rcases r1 with e | b
        · refine ⟨h1, h2, fun v ch h => (by cases h), fun e' h => ?_⟩
          injection h with h
          subst h
          exact h5 e rfl
        · cases b with
          | true => exact workF_h hE hG hA hq hk hgq hp' hsg.inv h1 h2 hl
          | false =>
            have hall := h3 rfl
            simp only at hall
            have hlt : q.toNat < s1.ans.length := by rw [hsg.inv.alen]; have := hq.1; have := hq.2; omega
            have hbig : ∃ F2, ∀ a ∈ k.asked, ∀ u, pv E.rules (hist k.checked) F a = some u → pv E.rules E.inp F2 a = some u := by
              have key : ∀ l : List Int, (∀ a ∈ l, a ∈ k.asked) → ∃ F2, ∀ a ∈ l, ∀ u, pv E.rules (hist k.checked) F a = some u → pv E.rules E.inp F2 a = some u := by
                intro l
                induction l with
                | nil => exact fun _ => ⟨0, fun a h => (by cases h)⟩
                | cons a r ih =>
                  intro hm
                  obtain ⟨F2, hF2⟩ := ih (fun b hb => hm b (List.mem_cons_of_mem _ hb))
                  obtain ⟨v, ch, ⟨f3, hf3⟩, hv2, _⟩ := hall a (hm a List.mem_cons_self)
                  refine ⟨max f3 F2, fun b hb u hu => ?_⟩
                  rcases List.mem_cons.1 hb with rfl | hb
                  · rw [hv2] at hu; injection hu with hu; subst hu
                    exact pv_mono (Nat.le_max_left _ _) hf3
                  · exact pv_mono (Nat.le_max_right _ _) (hF2 b hb u hu)
              exact key k.asked (fun _ h => h)
            obtain ⟨F2, hF2⟩ := hbig
            have hnow := pvRule_agree hF hF2
            refine ⟨h1.put (on := on) hsg.inv hk hnow (hs.asked q k hq hg) (fun a ha => ?_) (.inr ⟨k, hgq, rfl, rfl⟩), ?_, fun v ch h => ?_, fun e h => (by cases h)⟩
            · obtain ⟨v, ch, _, _, h⟩ := hall a ha; exact ⟨v, ch, h⟩
            · exact h2.put hp' hlt s1.done
            · injection h with h; injection h with h6 h7; subst h6; subst h7
              exact ⟨⟨F2 + 1, by rw [pv_rule (q := q) hk]; show Option.map _ (pvRule _ (E.rule q)) = _; rw [hnow]; rfl⟩, .inr ⟨hk, _, get_set_self hlt, rfl, rfl, rfl⟩⟩
end Go.Proofs.QM
