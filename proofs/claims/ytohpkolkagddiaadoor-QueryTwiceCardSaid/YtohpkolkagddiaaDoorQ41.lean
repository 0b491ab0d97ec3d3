/-
  An engine that is played: whatever is set, forgotten and asked, what it keeps is right; and asking it without a bound comes to what Plain comes to. No program in sight. No condition.
-/
import Derived.Test.YtohpkolkagddiaaDoorQ40
import Derived.Test.YtohpkolkagddiaaDoorQ36
namespace Go.Proofs.QW
open Go.Proofs.QM
set_option linter.unusedVariables false

/-- A call of an engine. -/
structure ActR where
  kind : Int
  q : Int
  v : Int
deriving Inhabited
def Env.bound (E : Env) (m : Int) : Env := { E with most := m }
def askS (E : Env) (ans : List (Option KeptR)) (q most : Int) : List (Option KeptR) :=
  if isErr E.rules.length q ≠ 0 ∨ most < 0 then ans else (askF (Env.bound E most) (E.rules.length + 1) [] ⟨ans, []⟩ q).1.ans
def forgetF (E : Env) (ans : List (Option KeptR)) (q : Int) : List (Option KeptR) × Int :=
  if isErr E.rules.length q ≠ 0 then (ans, 5) else if (E.rule q).kind = 1 then (ans, 2) else
    match ans.getD q.toNat none with
    | none => (ans, 8)
    | some _ => (ans.set q.toNat none, 0)
abbrev State := Env × List (Option KeptR)
def stepA (S : State) (a : ActR) : State :=
  if a.kind % 8 < 3 then ((setF S.1 a.q a.v).1, S.2)
  else if a.kind % 8 = 3 then (S.1, (forgetF S.1 S.2 a.q).1)
  else if a.kind % 8 = 4 then (S.1, askS S.1 S.2 a.q a.v)
  else (S.1, askS S.1 S.2 a.q 1073741824)
structure SInv (rs : List QRule) (n : Int) (S : State) : Prop where
  rules : S.1.rules = rs
  ok : EnvOk (Env.bound S.1 0)
  rev : S.1.rev ≤ n
  inv : PInv (Env.bound S.1 0) [] ⟨S.2, []⟩
  his : ∃ hist, HInv (Env.bound S.1 0) hist ⟨S.2, []⟩
theorem SInv.env {rs : List QRule} {n : Int} {S : State} (h : SInv rs n S) {m : Int} (h0 : 0 ≤ m) (h1 : m ≤ 9223372036854775807) : EnvOk (Env.bound S.1 m) :=
  ⟨h.ok.len, h.ok.rok, h.ok.ilen, h.ok.clen, h.ok.ival, h.ok.rev0, h.ok.rev1, h0, h1⟩
theorem SInv.pinv {rs : List QRule} {n : Int} {S : State} (h : SInv rs n S) {m : Int} (h0 : 0 ≤ m) : PInv (Env.bound S.1 m) [] ⟨S.2, []⟩ :=
  PInv.again h.inv rfl h0
theorem HInv.bound {E : Env} {hist : Hist} {s s' : PS} {m m' : Int} (h : HInv (Env.bound E m) hist s) (hs : s'.ans = s.ans) : HInv (Env.bound E m') hist s' := by
  obtain ⟨a, d⟩ := s
  obtain ⟨a', d'⟩ := s'
  obtain rfl : a' = a := hs
  exact ⟨h.now, h.le, h.tr, h.chg, h.nin, h.asked⟩
theorem isErr_in {n : Nat} {q : Int} (h : ¬ isErr n q ≠ 0) : 0 ≤ q ∧ q < n := by
  unfold isErr at h
  split at h
  · exact absurd (by decide) h
  · omega
theorem SInv.ask {rs : List QRule} {n : Int} {S : State} (h : SInv rs n S) (q m : Int) (h1 : m ≤ 9223372036854775807) : SInv rs n (S.1, askS S.1 S.2 q m) := by
  unfold askS
  by_cases hc : isErr S.1.rules.length q ≠ 0 ∨ m < 0
  · rw [if_pos hc]; exact ⟨h.rules, h.ok, h.rev, h.inv, h.his⟩
  · rw [if_neg hc]
    have hq : InQ (Env.bound S.1 m) q := isErr_in (fun e => hc (.inl e))
    have h0 : 0 ≤ m := by omega
    obtain ⟨hist, hh⟩ := h.his
    have hg := (askF_good (h.env h0 h1) (S.1.rules.length + 1) [] ⟨S.2, []⟩ q (h.pinv h0) hq).1
    have hA := (askF_h (h.env h0 h1) (hist := hist) (S.1.rules.length + 1) [] (by simp [Env.bound]) ⟨S.2, []⟩ q (h.pinv h0) (HInv.bound hh rfl) hq (fun p hp => by cases hp)).1
    refine ⟨h.rules, h.ok, h.rev, PInv.again hg.inv rfl (Int.le_refl 0), hist, HInv.bound hA rfl⟩
theorem getD_set_none {ans : List (Option KeptR)} {i j : Nat} : (ans.set i none).getD j none = if j = i then none else ans.getD j none := by
  rw [List.getD_eq_getElem?_getD, List.getElem?_set]
  by_cases e : j = i
  · subst e
    rw [if_pos rfl, if_pos rfl]
    split <;> rfl
  · rw [if_neg (fun h => e h.symm), if_neg e, List.getD_eq_getElem?_getD]
theorem SInv.forget {rs : List QRule} {n : Int} {S : State} (h : SInv rs n S) (q : Int) : SInv rs n (S.1, (forgetF S.1 S.2 q).1) := by
  have hsame : SInv rs n (S.1, S.2) := ⟨h.rules, h.ok, h.rev, h.inv, h.his⟩
  unfold forgetF
  split
  · exact hsame
  split
  · exact hsame
  split
  · exact hsame
  obtain ⟨hist, hh⟩ := h.his
  have hget : ∀ p k, (⟨S.2.set q.toNat none, []⟩ : PS).get p = some k → (⟨S.2, []⟩ : PS).get p = some k := fun p k hk => by
    unfold PS.get at hk ⊢
    simp only [getD_set_none] at hk
    split at hk
    · cases hk
    · exact hk
  have hhas : ∀ a v ch, Has (Env.bound S.1 0) ⟨S.2.set q.toNat none, []⟩ a v ch → Has (Env.bound S.1 0) ⟨S.2, []⟩ a v ch := fun a v ch hx => by
    rcases hx with hx | ⟨hk, k, h1, h2⟩
    · exact .inl hx
    · exact .inr ⟨hk, k, hget a k h1, h2⟩
  refine ⟨h.rules, h.ok, h.rev, ⟨?_, fun p k hp hk => h.inv.kok p k hp (hget p k hk), List.nodup_nil, fun p hp => (by cases hp), Int.le_refl 0, fun p hp => (by cases hp), List.nodup_nil, fun p hp => (by cases hp)⟩, hist,
    ⟨hh.now, fun p k hp hk => hh.le p k hp (hget p k hk), fun p k hp hk => hh.tr p k hp (hget p k hk), fun p kp hp hk a ha v ch hx hle => hh.chg p kp hp (hget p kp hk) a ha v ch (hhas a v ch hx) hle, fun p k hp hk => hh.nin p k hp (hget p k hk), fun p k hp hk => hh.asked p k hp (hget p k hk)⟩⟩
  simpa using h.inv.alen
theorem getD_set_int {l : List Int} {i j : Nat} {v : Int} (hi : i < l.length) : (l.set i v).getD j 0 = if j = i then v else l.getD j 0 := by
  rw [List.getD_eq_getElem?_getD, List.getElem?_set]
  by_cases e : j = i
  · subst e; rw [if_pos rfl, if_pos rfl, if_pos hi]; rfl
  · rw [if_neg (fun h => e h.symm), if_neg e, List.getD_eq_getElem?_getD]
theorem SInv.set {rs : List QRule} {n : Int} {S : State} (h : SInv rs n S) (q v : Int) (hn : n < 4611686018427387904) : SInv rs (n + 1) ((setF S.1 q v).1, S.2) := by
  have hsame : SInv rs (n + 1) (S.1, S.2) := ⟨h.rules, h.ok, by have := h.rev; show S.1.rev ≤ n + 1; omega, h.inv, h.his⟩
  unfold setF
  split
  · exact hsame
  rename_i hc
  have hq := isErr_in hc
  split
  · exact hsame
  rename_i hv
  split
  · have hl : q.toNat < S.1.inp.length := by have := h.ok.ilen; have h2 : S.1.inp.length = S.1.rules.length := this; omega
    have hl2 : q.toNat < S.1.inpCh.length := by have := h.ok.clen; have h2 : S.1.inpCh.length = S.1.rules.length := this; omega
    have hrev := h.rev
    have hr0 : 0 ≤ S.1.rev := h.ok.rev0
    obtain ⟨hist, hh⟩ := h.his
    have hle : ∀ p k, InQ (Env.bound S.1 0) p → (⟨S.2, []⟩ : PS).get p = some k → k.checked ≤ S.1.rev := fun p k hp hk => hh.le p k hp hk
    have hho : ∀ c, c ≤ S.1.rev → (fun c => if c = S.1.rev + 1 then S.1.inp.set q.toNat v else hist c : Hist) c = hist c := fun c hc => by
      show (if c = S.1.rev + 1 then _ else _) = _
      rw [if_neg (by omega)]
    refine ⟨h.rules, ⟨h.ok.len, h.ok.rok, by simpa [Env.bound] using h.ok.ilen, by simpa [Env.bound] using h.ok.clen, fun p h0 h1 hk => ?_, by show (0 : Int) ≤ S.1.rev + 1; omega, by show S.1.rev + 1 ≤ _; omega, Int.le_refl 0, by show (0 : Int) ≤ 9223372036854775807; decide⟩, by show S.1.rev + 1 ≤ n + 1; omega,
      PInv.again h.inv rfl (Int.le_refl 0),
      fun c => if c = S.1.rev + 1 then S.1.inp.set q.toNat v else hist c, ⟨?_, fun p k hp hk => ?_, fun p k hp hk => ?_, fun p kp hp hk a ha u ch hx hle2 => ?_, hh.nin, hh.asked⟩⟩
    · show 0 ≤ (S.1.inp.set q.toNat v).getD p.toNat 0 ∧ (S.1.inp.set q.toNat v).getD p.toNat 0 ≤ 1048576
      rw [getD_set_int hl]
      split
      · omega
      · exact h.ok.ival p h0 h1 hk
    · show (if S.1.rev + 1 = S.1.rev + 1 then _ else _) = _
      rw [if_pos rfl]; rfl
    · have := hle p k hp hk
      show k.checked ≤ S.1.rev + 1
      omega
    · have t := hh.tr p k hp hk
      rw [← hho _ (hle p k hp hk)] at t
      exact t
    · have hck := hle p kp hp hk
      have haq := hh.asked p kp hp hk a ha
      suffices hsuf : Val S.1.rules (hist kp.checked) a u by
        rw [← hho _ hck] at hsuf
        exact hsuf
      refine hh.chg p kp hp hk a ha u ch ?_ hle2
      rcases hx with ⟨hi, hu, hc2⟩ | hx
      · have hu : u = (S.1.inp.set q.toNat v).getD a.toNat 0 := hu
        have hc2 : ch = (S.1.inpCh.set q.toNat (S.1.rev + 1)).getD a.toNat 0 := hc2
        rw [getD_set_int hl] at hu
        rw [getD_set_int hl2] at hc2
        by_cases e : a.toNat = q.toNat
        · rw [if_pos e] at hc2; omega
        · rw [if_neg e] at hu hc2; exact .inl ⟨hi, hu, hc2⟩
      · exact .inr hx
  · exact hsame
theorem SInv.step {rs : List QRule} {n : Int} {S : State} (h : SInv rs n S) (a : ActR) (hn : n < 4611686018427387904) (hv : a.v ≤ 9223372036854775807) : SInv rs (n + 1) (stepA S a) := by
  have hup : ∀ {T : State}, SInv rs n T → SInv rs (n + 1) T := fun h => ⟨h.rules, h.ok, by have := h.rev; omega, h.inv, h.his⟩
  unfold stepA
  split
  · exact h.set a.q a.v hn
  split
  · exact hup (h.forget a.q)
  split
  · exact hup (h.ask a.q a.v hv)
  · exact hup (h.ask a.q _ (by decide))
theorem fresh_get (n : Nat) (d : List Int) (q : Int) : (⟨List.replicate n none, d⟩ : PS).get q = none := by unfold PS.get; exact getD_replicate _ _ _
theorem HInv.fresh {E : Env} (n : Nat) : HInv E (fun _ => E.inp) ⟨List.replicate n none, []⟩ :=
  ⟨rfl, fun q k _ h => (by rw [fresh_get] at h; cases h), fun q k _ h => (by rw [fresh_get] at h; cases h), fun q k _ h => (by rw [fresh_get] at h; cases h), fun q k _ h => (by rw [fresh_get] at h; cases h), fun q k _ h => (by rw [fresh_get] at h; cases h)⟩
theorem SInv.start {rs : List QRule} (hc : (check rs).2 = 0) : SInv rs 0 (fresh rs 0, List.replicate rs.length none) := by
  have h0 : ∀ i, i < rs.length → badAt rs (List.replicate rs.length 0) i = false := fun i hi => by
    unfold badAt
    rw [getD_replicate]
    simp
  have hE : EnvOk (envP rs (List.replicate rs.length 0) 0) := envP_ok hc (by simp) h0 0 (Int.le_refl 0) (by decide)
  exact ⟨rfl, hE, Int.le_refl 0, PInv.fresh rs _ 0 (Int.le_refl 0), _, HInv.fresh rs.length⟩
/-- Of a bound that is not too small, asking never ends by it. -/
def No13 (E : Env) (on : List Int) (ask : AskFn) : Prop := ∀ s q, PInv E on s → InQ E q → (ask s q).2 ≠ .error 13
theorem askAll_13 {E : Env} {on : List Int} {ask : AskFn} (hg : QM.Good E on ask) (hn : No13 E on ask) (stop : Bool) : ∀ (l : List Int) (s : PS), PInv E on s → (∀ q ∈ l, InQ E q) → (askAll ask stop s l).2 ≠ .error 13
  | [], s, _, _ => by simp [askAll]
  | q :: r, s, hp, hq => by
    have h1 := hn s q hp (hq q List.mem_cons_self)
    have h2 := (hg s q hp (hq q List.mem_cons_self)).1.inv
    unfold askAll
    rcases hr : ask s q with ⟨s1, r1⟩
    rw [hr] at h1 h2
    cases r1 with
    | error e => intro h; exact h1 (by simpa using h)
    | ok x =>
      obtain ⟨v, ch⟩ := x
      simp only
      split
      · simp
      · have ih := askAll_13 hg hn stop r s1 h2 (fun x hx => hq x (List.mem_cons_of_mem _ hx))
        rcases hr2 : askAll ask stop s1 r with ⟨s2, r2⟩
        rw [hr2] at ih
        cases r2 with
        | error e => intro h; exact ih (by simpa using h)
        | ok vs => simp
theorem evalR_13 {E : Env} {on : List Int} {ask : AskFn} (hg : QM.Good E on ask) (hn : No13 E on ask) {r : QRule} (hr : ROk E.rules.length r) {s : PS} (hp : PInv E on s) : (evalR ask s r).2 ≠ .error 13 := by
  unfold evalR
  split
  · rename_i hk
    have hq0 := (pick_mem (E := E) (v := 0) hr hk (by omega)).2
    have h1 := hn s _ hp hq0
    have h2 := hg s _ hp hq0
    rcases hr1 : ask s (r.asks.getD 0 0) with ⟨s1, r1⟩
    rw [hr1] at h1 h2
    cases r1 with
    | error e => intro h; exact h1 (by simpa using h)
    | ok x =>
      obtain ⟨v, ch⟩ := x
      have hqp := (pick_mem (E := E) hr hk (h2.2 v ch rfl).1).1
      have h3 := hn s1 _ h2.1.inv hqp
      simp only
      rcases hr2 : ask s1 (pickOf r v) with ⟨s2, r2⟩
      rw [hr2] at h3
      cases r2 with
      | error e => intro h; exact h3 (by simpa using h)
      | ok y => simp
  · have h1 := askAll_13 hg hn (r.kind == 4) r.asks s hp (fun q hq => hr.asks q hq)
    rcases hr1 : askAll ask (r.kind == 4) s r.asks with ⟨s1, r1⟩
    rw [hr1] at h1
    cases r1 with
    | error e => intro h; exact h1 (by simpa using h)
    | ok got => simp
theorem staleF_13 {E : Env} {on : List Int} {ask : AskFn} (hg : QM.Good E on ask) (hn : No13 E on ask) (c : Int) : ∀ (l : List Int) (s : PS), PInv E on s → (∀ q ∈ l, InQ E q) → (staleF ask c s l).2 ≠ .error 13
  | [], s, _, _ => by simp [staleF]
  | q :: r, s, hp, hq => by
    have h1 := hn s q hp (hq q List.mem_cons_self)
    have h2 := (hg s q hp (hq q List.mem_cons_self)).1.inv
    unfold staleF
    rcases hr : ask s q with ⟨s1, r1⟩
    rw [hr] at h1 h2
    cases r1 with
    | error e => intro h; exact h1 (by simpa using h)
    | ok x =>
      obtain ⟨v, ch⟩ := x
      simp only
      split
      · simp
      · exact staleF_13 hg hn c r s1 h2 (fun x hx => hq x (List.mem_cons_of_mem _ hx))
theorem workF_13 {E : Env} (hE : EnvOk E) (hm : (E.rules.length : Int) ≤ E.most) {on : List Int} {ask : AskFn} {q : Int} (hg : QM.Good E (q :: on) ask) (hn : No13 E (q :: on) ask) (hq : InQ E q) {s : PS} (hp : PInv E (q :: on) s) (was : Option KeptR) : (workF E ask s q was).2 ≠ .error 13 := by
  have hr := hE.rok _ (rule_mem hq)
  have h1 := evalR_13 hg hn hr hp
  have h2 := (evalR_good hE hg hr hp).1.inv
  unfold workF
  rcases he : evalR ask s (E.rule q) with ⟨s1, r1⟩
  rw [he] at h1 h2
  cases r1 with
  | error e => intro h; exact h1 (by simpa using h)
  | ok x =>
    obtain ⟨v, asked⟩ := x
    simp only at h2 ⊢
    have hq1 : q ∉ s1.done := fun hd => by
      obtain ⟨_, kr, hkr, hc⟩ := h2.dok q hd
      exact h2.onk q List.mem_cons_self kr hkr hc
    have hlen := nodup_length (n := E.rules.length) (l := q :: s1.done) (List.nodup_cons.2 ⟨hq1, h2.dnd⟩) (fun p hp => by
      rcases List.mem_cons.1 hp with rfl | hp
      · exact hq
      · exact (h2.dok p hp).1)
    rw [List.length_cons] at hlen
    rw [if_neg (by omega)]
    simp
theorem askF_13 {E : Env} (hE : EnvOk E) (hm : (E.rules.length : Int) ≤ E.most) : ∀ (f : Nat) (on : List Int), No13 E on (askF E f on)
  | 0, _, s, q, _, _ => by simp [askF]
  | f + 1, on, s, q, hp, hq => by
    unfold askF
    split
    · simp
    split
    · simp
    rename_i hon
    have hG := askF_good hE f (q :: on)
    have hN := askF_13 hE hm f (q :: on)
    cases hg : s.get q with
    | none => exact workF_13 hE hm hG hN hq (hp.open_ hq hon (fun k h => by rw [hg] at h; cases h)) none
    | some k =>
      simp only
      split
      · simp
      · rename_i hc
        have hp' := hp.open_ hq hon (fun k' h => by rw [hg] at h; injection h with h; exact h ▸ hc)
        have h1 := staleF_13 hG hN k.checked k.asked s hp' (hp.kok q k hq hg).asked
        have h2 := (staleF_good hG k.checked k.asked s hp' (hp.kok q k hq hg).asked).inv
        rcases he : staleF (askF E f (q :: on)) k.checked s k.asked with ⟨s1, r1⟩
        rw [he] at h1 h2
        rcases r1 with e | b
        · intro h; exact h1 (by simpa using h)
        · cases b with
          | true => exact workF_13 hE hm hG hN hq h2 (some k)
          | false => simp
/-- What Ask returns, without a bound. -/
theorem endOf_val {E : Env} (hE : EnvOk E) (hm : (E.rules.length : Int) ≤ E.most) {hist : Hist} {ans : List (Option KeptR)} (hp : PInv E [] ⟨ans, []⟩) (hh : HInv E hist ⟨ans, []⟩) {q : Int} (hq : InQ E q) :
    (∃ v, Val E.rules E.inp q v ∧ endOf (askF E (E.rules.length + 1) [] ⟨ans, []⟩ q) = (v, 0)) ∨ ((∀ f, pv E.rules E.inp f q = none) ∧ endOf (askF E (E.rules.length + 1) [] ⟨ans, []⟩ q) = (0, 8)) := by
  obtain ⟨_, _, h3, h4⟩ := askF_h hE (hist := hist) (E.rules.length + 1) [] (by simp) ⟨ans, []⟩ q hp hh hq (fun p hp => by cases hp)
  have h5 := askF_13 hE hm (E.rules.length + 1) [] ⟨ans, []⟩ q hp hq
  rcases ha : askF E (E.rules.length + 1) [] ⟨ans, []⟩ q with ⟨s1, r1⟩
  rw [ha] at h3 h4 h5
  cases r1 with
  | ok x => obtain ⟨v, ch⟩ := x; exact .inl ⟨v, (h3 v ch rfl).1, rfl⟩
  | error e =>
    rcases h4 e rfl with rfl | ⟨rfl, hn⟩
    · exact absurd rfl h5
    · exact .inr ⟨hn, rfl⟩
theorem pvAll_rng {g : Int → Option Int} {stop : Bool} {p : Int → Prop} : ∀ {l got : List Int}, pvAll g stop l = some got → (∀ a ∈ l, ∀ v, g a = some v → p v) → ∀ v ∈ got, p v
  | [], got, h, _, v, hv => by simp [pvAll] at h; subst h; cases hv
  | q :: r, got, h, ha, v, hv => by
    unfold pvAll at h
    cases hq : g q with
    | none => rw [hq] at h; cases h
    | some x =>
      rw [hq] at h
      simp only at h
      by_cases hs : stop = true ∧ x ≠ 0
      · rw [if_pos hs] at h; injection h with h; subst h
        rw [List.mem_singleton.1 hv]; exact ha q List.mem_cons_self x hq
      · rw [if_neg hs] at h
        obtain ⟨vs, hvs, rfl⟩ := Option.map_eq_some_iff.1 h
        rcases List.mem_cons.1 hv with rfl | hv
        · exact ha q List.mem_cons_self _ hq
        · exact pvAll_rng hvs (fun a h => ha a (List.mem_cons_of_mem _ h)) v hv
theorem pvAll_congr {g g' : Int → Option Int} {stop : Bool} : ∀ (l : List Int), (∀ a ∈ l, g a = g' a) → pvAll g stop l = pvAll g' stop l
  | [], _ => rfl
  | q :: r, h => by
    unfold pvAll
    rw [h q List.mem_cons_self, pvAll_congr r (fun a ha => h a (List.mem_cons_of_mem _ ha))]
/-- A value looks at inputs alone. -/
theorem pv_congr {rules : List QRule} {a b : List Int} (hr : ∀ r ∈ rules, ROk rules.length r) (h : ∀ q : Int, 0 ≤ q → q < rules.length → (rules.getD q.toNat default).kind = 1 → a.getD q.toNat 0 = b.getD q.toNat 0)
    (hv : ∀ q : Int, 0 ≤ q → q < rules.length → (rules.getD q.toNat default).kind = 1 → 0 ≤ a.getD q.toNat 0 ∧ a.getD q.toNat 0 ≤ 1048576) :
    ∀ (f : Nat) (q : Int), 0 ≤ q → q < rules.length → pv rules a f q = pv rules b f q ∧ ∀ v, pv rules a f q = some v → 0 ≤ v ∧ v ≤ 1048576
  | 0, q, _, _ => ⟨rfl, fun v h => by cases h⟩
  | f + 1, q, h0, h1 => by
    have hmem : rules.getD q.toNat default ∈ rules := by
      have hlt : q.toNat < rules.length := by omega
      rw [List.getD_eq_getElem?_getD, List.getElem?_eq_getElem hlt]
      exact List.getElem_mem hlt
    have hrr := hr _ hmem
    by_cases hk : (rules.getD q.toNat default).kind = 1
    · rw [pv_input hk, pv_input hk]
      exact ⟨by rw [h q h0 h1 hk], fun v hv' => by injection hv' with hv'; rw [← hv']; exact hv q h0 h1 hk⟩
    · rw [pv_rule hk, pv_rule hk]
      generalize rules.getD q.toNat default = r at *
      have ih := pv_congr hr h hv f
      have key : pvRule (pv rules a f) r = pvRule (pv rules b f) r ∧ ∀ x, pvRule (pv rules a f) r = some x → 0 ≤ x.1 ∧ x.1 ≤ 1048576 := by
        unfold pvRule
        by_cases h3 : r.kind = 3
        · rw [if_pos h3, if_pos h3]
          let E : Env := ⟨rules, [], [], 0, 0⟩
          have hq0 := (pick_mem (E := E) (v := 0) hrr h3 (by omega)).2
          rw [← (ih _ hq0.1 hq0.2).1]
          cases hg : pv rules a f (r.asks.getD 0 0) with
          | none => exact ⟨rfl, fun x h => by cases h⟩
          | some v =>
            have hqp := (pick_mem (E := E) hrr h3 ((ih _ hq0.1 hq0.2).2 v hg).1).1
            simp only
            rw [← (ih _ hqp.1 hqp.2).1]
            refine ⟨rfl, fun x hx => ?_⟩
            obtain ⟨u, hu, he⟩ := Option.map_eq_some_iff.1 hx
            rw [← he]
            exact (ih _ hqp.1 hqp.2).2 u hu
        · rw [if_neg h3, if_neg h3, ← pvAll_congr r.asks (fun x hx => (ih x (hrr.asks x hx).1 (hrr.asks x hx).2).1)]
          refine ⟨rfl, fun x hx => ?_⟩
          obtain ⟨got, hgot, he⟩ := Option.map_eq_some_iff.1 hx
          rw [← he]
          exact answerOf_range hrr (pvAll_rng hgot (fun x hx => (ih x (hrr.asks x hx).1 (hrr.asks x hx).2).2))
      rw [← key.1]
      refine ⟨rfl, fun v hv' => ?_⟩
      obtain ⟨x, hx, he⟩ := Option.map_eq_some_iff.1 hv'
      rw [← he]
      exact key.2 x hx
/-- The inputs as they are (0 where there is none). -/
def inputsF (E : Env) : List Int := (List.range E.rules.length).map fun i => if (E.rules.getD i default).kind = 1 then E.inp.getD i 0 else 0
theorem inputsF_length (E : Env) : (inputsF E).length = E.rules.length := by simp [inputsF]
theorem inputsF_get (E : Env) {i : Nat} (h : i < E.rules.length) : (inputsF E).getD i 0 = if (E.rules.getD i default).kind = 1 then E.inp.getD i 0 else 0 := by
  unfold inputsF
  rw [List.getD_eq_getElem?_getD, List.getElem?_map, List.getElem?_range h]; rfl
theorem SInv.values {rs : List QRule} {n : Int} {S : State} (h : SInv rs n S) : badV rs (inputsF S.1) = false ∧ (inputsF S.1).length = rs.length := by
  refine ⟨?_, by rw [inputsF_length, h.rules]⟩
  unfold badV
  rw [List.any_eq_false]
  intro i hi
  have hi := List.mem_range.1 hi
  have hir : i < S.1.rules.length := by rw [h.rules]; exact hi
  unfold badAt
  rw [inputsF_get _ hir, h.rules]
  by_cases hk : (rs.getD i default).kind = 1
  · have := h.ok.ival (i : Int) (by omega) (by show (i : Int) < S.1.rules.length; omega) (by show (S.1.rules.getD (i : Int).toNat default).kind = 1; rw [h.rules, Int.toNat_natCast]; exact hk)
    rw [Int.toNat_natCast] at this
    have h0 : 0 ≤ S.1.inp.getD i 0 ∧ S.1.inp.getD i 0 ≤ 1048576 := this
    rw [if_pos hk, decide_eq_false (show ¬ S.1.inp.getD i 0 < 0 by omega), decide_eq_false (show ¬ 1048576 < S.1.inp.getD i 0 by omega)]
    simp
  · rw [beq_eq_false_iff_ne.2 hk, Bool.false_and]
    decide
theorem anew_same {rs : List QRule} {n : Int} {S : State} (h : SInv rs n S) (hc : (check rs).2 = 0) {q : Int} (h0 : 0 ≤ q) (h1 : q < rs.length) :
    endOf (askF (Env.bound S.1 1073741824) (S.1.rules.length + 1) [] ⟨S.2, []⟩ q) = plainF rs (inputsF S.1) q := by
  obtain ⟨hb, hl⟩ := h.values
  obtain ⟨h200, hrok⟩ := check_ok hc
  have hE := h.env (m := 1073741824) (by decide) (by decide)
  obtain ⟨hist, hh⟩ := h.his
  have hrl : S.1.rules.length = rs.length := by rw [h.rules]
  have a1 := endOf_val hE (by show (S.1.rules.length : Int) ≤ 1073741824; omega) (h.pinv (by decide)) (HInv.bound (m' := 1073741824) hh rfl) (q := q) ⟨h0, by show q < S.1.rules.length; omega⟩
  have hE2 : EnvOk (envP rs (inputsF S.1) rs.length) := plain_env hc hl hb
  have a2 := endOf_val hE2 (Int.le_refl _) (PInv.fresh rs (inputsF S.1) rs.length (by omega)) (HInv.fresh rs.length) (q := q) ⟨h0, h1⟩
  have hpl : plainF rs (inputsF S.1) q = endOf (askF (envP rs (inputsF S.1) rs.length) (rs.length + 1) [] ⟨List.replicate rs.length none, []⟩ q) := by
    unfold plainF
    rw [if_neg (fun h => h hc), if_neg (fun h => h hl), if_neg (by rw [hb]; decide), if_neg (by omega)]
  have hin : ∀ p : Int, 0 ≤ p → p < rs.length → (rs.getD p.toNat default).kind = 1 → S.1.inp.getD p.toNat 0 = (inputsF S.1).getD p.toNat 0 := fun p p0 p1 hk => by
    rw [inputsF_get _ (by rw [h.rules]; omega), h.rules, if_pos hk]
  have hcong := fun f => pv_congr (a := S.1.inp) (b := inputsF S.1) hrok hin (fun p p0 p1 hk => h.ok.ival p p0 (by show p < S.1.rules.length; omega) (by show (S.1.rules.getD p.toNat default).kind = 1; rw [h.rules]; exact hk)) f q h0 h1
  have e1 : (Env.bound S.1 1073741824).rules = rs := h.rules
  have e2 : (Env.bound S.1 1073741824).inp = S.1.inp := rfl
  rw [e1, e2] at a1
  rw [hpl]
  have hfl : S.1.rules.length + 1 = rs.length + 1 := by rw [hrl]
  rw [hfl]
  have ep : (envP rs (inputsF S.1) rs.length).rules = rs := rfl
  have ei : (envP rs (inputsF S.1) rs.length).inp = inputsF S.1 := rfl
  rw [ep, ei] at a2
  rcases a1 with ⟨v, ⟨f, hv⟩, r1⟩ | ⟨hn, r1⟩
  · rcases a2 with ⟨v', ⟨f', hv'⟩, r2⟩ | ⟨hn', r2⟩
    · rw [(hcong f).1] at hv
      rw [r1, r2, pv_unique hv hv']
    · rw [(hcong f).1, hn' f] at hv; cases hv
  · rcases a2 with ⟨v', ⟨f', hv'⟩, r2⟩ | ⟨hn', r2⟩
    · rw [← (hcong f').1, hn f'] at hv'; cases hv'
    · rw [r1, r2]
end Go.Proofs.QW
