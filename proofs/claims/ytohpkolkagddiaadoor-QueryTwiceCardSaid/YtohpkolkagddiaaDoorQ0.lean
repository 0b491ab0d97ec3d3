/-
  The plain model of questions that ask one another (layer 22): rules, kept results, asking with a bound on depth; and what stays true of it. No program in sight. No condition.
-/
namespace Go.Proofs.QM

structure QRule where
  kind : Int
  n : Int
  asks : List Int
deriving Inhabited, DecidableEq
structure KeptR where
  value : Int
  asked : List Int
  checked : Int
  changed : Int
deriving Inhabited, DecidableEq

/-- The bounds of a kind: few, many, low, high. -/
def bnds (k : Int) : Int × Int × Int × Int :=
  if k = 1 then (0, 0, 0, 0) else if k = 2 then (0, 12, 1, 1048576) else if k = 3 then (2, 12, 0, 0) else if k = 4 then (0, 12, 0, 0) else if k = 5 then (2, 2, 0, 0) else (1, 1, -1000, 1000)
def askOut (many : Int) (q : Int) : Bool := decide (q < 0) || decide (many ≤ q)
/-- The error of a rule among so many. -/
def ruleErr (many : Int) (r : QRule) : Int :=
  if r.kind < 1 ∨ 7 ≤ r.kind then 2
  else if r.n < (bnds r.kind).2.2.1 ∨ (bnds r.kind).2.2.2 < r.n then 2
  else if 12 < (r.asks.length : Int) then 3
  else if (r.asks.length : Int) < (bnds r.kind).1 ∨ (bnds r.kind).2.1 < (r.asks.length : Int) then 2
  else if r.asks.any (askOut many) then 5 else 0
def checkFrom (many : Int) : List QRule → Int → Int × Int
  | [], _ => (0, 0)
  | r :: rs, i => if ruleErr many r = 0 then checkFrom many rs (i + 1) else (i, ruleErr many r)
def check (rs : List QRule) : Int × Int := if 200 < rs.length then (0, 3) else checkFrom rs.length rs 0

structure Env where
  rules : List QRule
  inp : List Int
  inpCh : List Int
  rev : Int
  most : Int
structure PS where
  ans : List (Option KeptR)
  done : List Int
deriving DecidableEq
def Env.rule (E : Env) (q : Int) : QRule := E.rules.getD q.toNat default
def PS.get (s : PS) (q : Int) : Option KeptR := s.ans.getD q.toNat none
def PS.set (s : PS) (q : Int) (k : KeptR) : PS := { s with ans := s.ans.set q.toNat (some k) }
abbrev AskFn := PS → Int → PS × Except Int (Int × Int)

def askAll (ask : AskFn) (stop : Bool) : PS → List Int → PS × Except Int (List Int)
  | s, [] => (s, .ok [])
  | s, q :: r =>
    match ask s q with
    | (s1, .error e) => (s1, .error e)
    | (s1, .ok (v, _)) =>
      if stop = true ∧ v ≠ 0 then (s1, .ok [v]) else
      match askAll ask stop s1 r with
      | (s2, .error e) => (s2, .error e)
      | (s2, .ok vs) => (s2, .ok (v :: vs))
def answerOf (r : QRule) (got : List Int) : Int :=
  if r.kind = 2 then got.foldl (fun n x => (n + x) % r.n) 0
  else if r.kind = 4 then got.getLastD 0
  else if r.kind = 5 then (if got.getD 0 0 < got.getD 1 0 then 1 else 0)
  else min (max (got.getD 0 0 + r.n) 0) 1048576
def pickOf (r : QRule) (v : Int) : Int := r.asks.getD (1 + v % ((r.asks.length : Int) - 1)).toNat 0
def evalR (ask : AskFn) (s : PS) (r : QRule) : PS × Except Int (Int × List Int) :=
  if r.kind = 3 then
    match ask s (r.asks.getD 0 0) with
    | (s1, .error e) => (s1, .error e)
    | (s1, .ok (v, _)) =>
      match ask s1 (pickOf r v) with
      | (s2, .error e) => (s2, .error e)
      | (s2, .ok (u, _)) => (s2, .ok (u, [r.asks.getD 0 0, pickOf r v]))
  else
    match askAll ask (r.kind == 4) s r.asks with
    | (s1, .error e) => (s1, .error e)
    | (s1, .ok got) => (s1, .ok (answerOf r got, r.asks.take got.length))
def staleF (ask : AskFn) (checked : Int) : PS → List Int → PS × Except Int Bool
  | s, [] => (s, .ok false)
  | s, q :: r =>
    match ask s q with
    | (s1, .error e) => (s1, .error e)
    | (s1, .ok (_, ch)) => if checked < ch then (s1, .ok true) else staleF ask checked s1 r
def chOf (rev : Int) (was : Option KeptR) (v : Int) : Int :=
  match was with
  | some k => if k.value = v then k.changed else rev
  | none => rev
def workF (E : Env) (ask : AskFn) (s : PS) (q : Int) (was : Option KeptR) : PS × Except Int (Int × Int) :=
  match evalR ask s (E.rule q) with
  | (s1, .error e) => (s1, .error e)
  | (s1, .ok (v, asked)) =>
    if E.most ≤ s1.done.length then (s1, .error 13)
    else (({ s1 with done := s1.done ++ [q] } : PS).set q { value := v, asked := asked, checked := E.rev, changed := chOf E.rev was v }, .ok (v, chOf E.rev was v))
def askF (E : Env) : Nat → List Int → AskFn
  | 0, _, s, _ => (s, .error 99)
  | f + 1, on, s, q =>
    if (E.rule q).kind = 1 then (s, .ok (E.inp.getD q.toNat 0, E.inpCh.getD q.toNat 0))
    else if q ∈ on then (s, .error 8)
    else
      match s.get q with
      | some k =>
        if k.checked = E.rev then (s, .ok (k.value, k.changed))
        else
          match staleF (askF E f (q :: on)) k.checked s k.asked with
          | (s1, .error e) => (s1, .error e)
          | (s1, .ok true) => workF E (askF E f (q :: on)) s1 q (some k)
          | (s1, .ok false) => (s1.set q { k with checked := E.rev }, .ok (k.value, k.changed))
      | none => workF E (askF E f (q :: on)) s q none

/-! ### Rules that may be -/
structure ROk (many : Int) (r : QRule) : Prop where
  k1 : 1 ≤ r.kind
  k2 : r.kind ≤ 6
  n1 : (bnds r.kind).2.2.1 ≤ r.n
  n2 : r.n ≤ (bnds r.kind).2.2.2
  l12 : (r.asks.length : Int) ≤ 12
  l1 : (bnds r.kind).1 ≤ r.asks.length
  l2 : (r.asks.length : Int) ≤ (bnds r.kind).2.1
  asks : ∀ q ∈ r.asks, 0 ≤ q ∧ q < many
theorem rok_of {many : Int} {r : QRule} (h : ruleErr many r = 0) : ROk many r := by
  unfold ruleErr at h
  split at h
  · cases h
  split at h
  · cases h
  split at h
  · cases h
  split at h
  · cases h
  split at h
  · cases h
  rename_i h1 h2 h3 h4 h5
  refine ⟨by omega, by omega, by omega, by omega, by omega, by omega, by omega, fun q hq => ?_⟩
  have := h5
  simp only [List.any_eq_true, not_exists, not_and, Bool.not_eq_true] at this
  have := this q hq
  unfold askOut at this
  simp at this
  omega
theorem checkFrom_ok {many : Int} : ∀ {rs : List QRule} {i : Int}, 0 ≤ i → (checkFrom many rs i).2 = 0 → ∀ r ∈ rs, ruleErr many r = 0
  | [], _, _, _, _, h => by cases h
  | r :: rs, i, hi, h, x, hx => by
    unfold checkFrom at h
    split at h
    · rename_i h0
      rcases List.mem_cons.1 hx with rfl | hx
      · exact h0
      · exact checkFrom_ok (by omega) h x hx
    · rename_i h0; exact absurd h h0
theorem check_ok {rs : List QRule} (h : (check rs).2 = 0) : rs.length ≤ 200 ∧ ∀ r ∈ rs, ROk rs.length r := by
  unfold check at h
  split at h
  · cases h
  · rename_i hl
    exact ⟨by omega, fun r hr => rok_of (checkFrom_ok (by omega) h r hr)⟩

/-! ### What is true of an engine's rules, inputs and revision -/
structure EnvOk (E : Env) : Prop where
  len : E.rules.length ≤ 200
  rok : ∀ r ∈ E.rules, ROk E.rules.length r
  ilen : E.inp.length = E.rules.length
  clen : E.inpCh.length = E.rules.length
  ival : ∀ q : Int, 0 ≤ q → q < E.rules.length → (E.rule q).kind = 1 → 0 ≤ E.inp.getD q.toNat 0 ∧ E.inp.getD q.toNat 0 ≤ 1048576
  rev0 : 0 ≤ E.rev
  rev1 : E.rev ≤ 4611686018427387904
  most0 : 0 ≤ E.most
  most1 : E.most ≤ 9223372036854775807
def InQ (E : Env) (q : Int) : Prop := 0 ≤ q ∧ q < E.rules.length
theorem rule_mem {E : Env} {q : Int} (h : InQ E q) : E.rule q ∈ E.rules := by
  have hlt : q.toNat < E.rules.length := by have := h.1; have := h.2; omega
  unfold Env.rule
  rw [List.getD_eq_getElem?_getD, List.getElem?_eq_getElem hlt]
  exact List.getElem_mem hlt
structure KOk (E : Env) (k : KeptR) : Prop where
  v0 : 0 ≤ k.value
  v1 : k.value ≤ 1048576
  asked : ∀ a ∈ k.asked, InQ E a
  alen : k.asked.length ≤ 12
structure PInv (E : Env) (on : List Int) (s : PS) : Prop where
  alen : s.ans.length = E.rules.length
  kok : ∀ q k, InQ E q → s.get q = some k → KOk E k
  dnd : s.done.Nodup
  dok : ∀ q ∈ s.done, InQ E q ∧ ∃ k, s.get q = some k ∧ k.checked = E.rev
  dmost : (s.done.length : Int) ≤ E.most
  onq : ∀ q ∈ on, InQ E q
  ond : on.Nodup
  onk : ∀ q ∈ on, ∀ k, s.get q = some k → k.checked ≠ E.rev
theorem get_set_self {s : PS} {q : Int} {k : KeptR} (h : q.toNat < s.ans.length) : (s.set q k).get q = some k := by
  unfold PS.get PS.set; simp [h]
theorem get_set_other {s : PS} {q p : Int} {k : KeptR} (hq : 0 ≤ q) (hp : 0 ≤ p) (h : p ≠ q) : (s.set q k).get p = s.get p := by
  unfold PS.get PS.set
  have : q.toNat ≠ p.toNat := by omega
  simp [List.getElem?_set_ne this]
theorem nodup_length {n : Nat} : ∀ {l : List Int}, l.Nodup → (∀ q ∈ l, 0 ≤ q ∧ q < n) → l.length ≤ n := by
  induction n with
  | zero =>
    intro l _ h
    cases l with
    | nil => simp
    | cons x r => have := h x List.mem_cons_self; omega
  | succ n ih =>
    intro l hn h
    have h1 : (l.erase (n : Int)).length ≤ n := ih (hn.erase _) (fun q hq => by
      have hm := (List.Nodup.mem_erase_iff hn).1 hq
      have := h q hm.2
      have := hm.1
      omega)
    have h2 : l.length ≤ (l.erase (n : Int)).length + 1 := by
      rw [List.length_erase]; split <;> omega
    omega
theorem PInv.dlen {E : Env} {on : List Int} {s : PS} (h : PInv E on s) : s.done.length ≤ E.rules.length := nodup_length h.dnd (fun q hq => (h.dok q hq).1)
theorem PInv.onlen {E : Env} {on : List Int} {s : PS} (h : PInv E on s) : on.length ≤ E.rules.length := nodup_length h.ond h.onq
/-- What asking does to what is known: questions that are open stay as they are, what is done grows. -/
structure Step (E : Env) (on : List Int) (s s' : PS) : Prop where
  inv : PInv E on s'
  fix : ∀ p ∈ on, s'.get p = s.get p
  more : ∃ l, s'.done = s.done ++ l
theorem Step.refl {E : Env} {on : List Int} {s : PS} (h : PInv E on s) : Step E on s s := ⟨h, fun _ _ => rfl, [], by simp⟩
theorem Step.trans {E : Env} {on : List Int} {a b c : PS} (h : Step E on a b) (k : Step E on b c) : Step E on a c :=
  ⟨k.inv, fun p hp => (k.fix p hp).trans (h.fix p hp), by obtain ⟨l, hl⟩ := h.more; obtain ⟨m, hm⟩ := k.more; exact ⟨l ++ m, by rw [hm, hl, List.append_assoc]⟩⟩
/-- What is asked of an asking function under 'on'. -/
def Good (E : Env) (on : List Int) (ask : AskFn) : Prop :=
  ∀ s q, PInv E on s → InQ E q → Step E on s (ask s q).1 ∧ ∀ v c, (ask s q).2 = .ok (v, c) → 0 ≤ v ∧ v ≤ 1048576
theorem askAll_good {E : Env} {on : List Int} {ask : AskFn} (hg : Good E on ask) (stop : Bool) : ∀ (l : List Int) (s : PS), PInv E on s → (∀ q ∈ l, InQ E q) →
    Step E on s (askAll ask stop s l).1 ∧ ∀ got, (askAll ask stop s l).2 = .ok got → got.length ≤ l.length ∧ (∀ v ∈ got, 0 ≤ v ∧ v ≤ 1048576) ∧ (stop = false → got.length = l.length)
  | [], s, hs, _ => ⟨Step.refl hs, fun got h => by simp [askAll] at h; subst h; simp⟩
  | q :: r, s, hs, hq => by
    obtain ⟨h1, hv⟩ := hg s q hs (hq q List.mem_cons_self)
    unfold askAll
    rcases hr : ask s q with ⟨s1, r1⟩
    rw [hr] at h1 hv
    cases r1 with
    | error e => exact ⟨h1, fun got h => by cases h⟩
    | ok x =>
      obtain ⟨v, c⟩ := x
      have hv := hv v c rfl
      simp only
      split
      · rename_i hst
        refine ⟨h1, fun got h => ?_⟩
        injection h with h; subst h
        exact ⟨by simp, by simpa using hv, fun h => by rw [hst.1] at h; cases h⟩
      · obtain ⟨h2, hl⟩ := askAll_good hg stop r s1 h1.inv (fun x hx => hq x (List.mem_cons_of_mem _ hx))
        rcases hr2 : askAll ask stop s1 r with ⟨s2, r2⟩
        rw [hr2] at h2 hl
        cases r2 with
        | error e => exact ⟨h1.trans h2, fun got h => by cases h⟩
        | ok vs =>
          refine ⟨h1.trans h2, fun got h => ?_⟩
          injection h with h; subst h
          obtain ⟨l1, l2, l3⟩ := hl vs rfl
          refine ⟨by simp; omega, fun u hu => ?_, fun hst => by simp [l3 hst]⟩
          rcases List.mem_cons.1 hu with rfl | hu
          · exact hv
          · exact l2 u hu
theorem answerOf_range {many : Int} {r : QRule} {got : List Int} (h : ROk many r) (hg : ∀ v ∈ got, 0 ≤ v ∧ v ≤ 1048576) : 0 ≤ answerOf r got ∧ answerOf r got ≤ 1048576 := by
  unfold answerOf
  split
  · rename_i hk
    have h1 := h.n1; have h2 := h.n2
    rw [hk] at h1 h2
    simp [bnds] at h1 h2
    have key : ∀ (l : List Int) (a : Int), 0 ≤ a ∧ a ≤ 1048576 → 0 ≤ l.foldl (fun n x => (n + x) % r.n) a ∧ l.foldl (fun n x => (n + x) % r.n) a ≤ 1048576 := by
      intro l
      induction l with
      | nil => exact fun a ha => ha
      | cons x l ih =>
        intro a _
        have a1 := Int.emod_nonneg (a + x) (show r.n ≠ 0 by omega)
        have a2 := Int.emod_lt_of_pos (a + x) (show 0 < r.n by omega)
        exact ih ((a + x) % r.n) ⟨a1, by omega⟩
    exact key got 0 (by omega)
  · split
    · cases got with
      | nil => simp
      | cons x l =>
        have hm : (x :: l).getLastD 0 ∈ (x :: l) := by
          rw [List.getLastD_eq_getLast?]
          rw [List.getLast?_eq_some_getLast (by simp)]
          exact List.getLast_mem _
        exact hg _ hm
    · split
      · split <;> omega
      · omega
theorem pick_mem {E : Env} {r : QRule} {v : Int} (h : ROk E.rules.length r) (hk : r.kind = 3) (_hv : 0 ≤ v) : InQ E (pickOf r v) ∧ InQ E (r.asks.getD 0 0) := by
  have l1 := h.l1
  rw [hk] at l1; simp [bnds] at l1
  have hpos : 0 < (r.asks.length : Int) - 1 := by omega
  have a1 := Int.emod_nonneg v (show (r.asks.length : Int) - 1 ≠ 0 by omega)
  have a2 := Int.emod_lt_of_pos v hpos
  refine ⟨?_, ?_⟩
  · unfold pickOf
    have hlt : (1 + v % ((r.asks.length : Int) - 1)).toNat < r.asks.length := by omega
    rw [List.getD_eq_getElem?_getD, List.getElem?_eq_getElem hlt]
    exact h.asks _ (List.getElem_mem hlt)
  · have hlt : 0 < r.asks.length := by omega
    rw [List.getD_eq_getElem?_getD, List.getElem?_eq_getElem hlt]
    exact h.asks _ (List.getElem_mem hlt)
theorem evalR_good {E : Env} (_hE : EnvOk E) {on : List Int} {ask : AskFn} (hg : Good E on ask) {r : QRule} (hr : ROk E.rules.length r) {s : PS} (hs : PInv E on s) :
    Step E on s (evalR ask s r).1 ∧ ∀ v asked, (evalR ask s r).2 = .ok (v, asked) → (0 ≤ v ∧ v ≤ 1048576) ∧ (∀ a ∈ asked, InQ E a) ∧ asked.length ≤ 12 := by
  have l12 := hr.l12
  unfold evalR
  split
  · rename_i hk
    obtain ⟨_, hq0⟩ := pick_mem (v := 0) hr hk (by omega)
    obtain ⟨h1, hv⟩ := hg s _ hs hq0
    rcases he : ask s (r.asks.getD 0 0) with ⟨s1, r1⟩
    rw [he] at h1 hv
    cases r1 with
    | error e => exact ⟨h1, fun _ _ h => by cases h⟩
    | ok x =>
      obtain ⟨v, c⟩ := x
      have hv := hv v c rfl
      obtain ⟨hqp, _⟩ := pick_mem hr hk hv.1
      obtain ⟨h2, hv2⟩ := hg s1 _ h1.inv hqp
      simp only
      rcases he2 : ask s1 (pickOf r v) with ⟨s2, r2⟩
      rw [he2] at h2 hv2
      cases r2 with
      | error e => exact ⟨h1.trans h2, fun _ _ h => by cases h⟩
      | ok y =>
        obtain ⟨u, d⟩ := y
        refine ⟨h1.trans h2, fun v' asked h => ?_⟩
        injection h with h; injection h with h3 h4; subst h3; subst h4
        refine ⟨hv2 u d rfl, fun a ha => ?_, by simp⟩
        simp at ha
        rcases ha with rfl | rfl
        · simpa using hq0
        · exact hqp
  · obtain ⟨h1, hl⟩ := askAll_good hg (r.kind == 4) r.asks s hs hr.asks
    rcases he : askAll ask (r.kind == 4) s r.asks with ⟨s1, r1⟩
    rw [he] at h1 hl
    cases r1 with
    | error e => exact ⟨h1, fun _ _ h => by cases h⟩
    | ok got =>
      obtain ⟨l1, l2, _⟩ := hl got rfl
      refine ⟨h1, fun v asked h => ?_⟩
      injection h with h; injection h with h3 h4; subst h3; subst h4
      exact ⟨answerOf_range hr l2, fun a ha => hr.asks a (List.mem_of_mem_take ha), by simp; omega⟩
theorem staleF_good {E : Env} {on : List Int} {ask : AskFn} (hg : Good E on ask) (c : Int) : ∀ (l : List Int) (s : PS), PInv E on s → (∀ q ∈ l, InQ E q) → Step E on s (staleF ask c s l).1
  | [], s, hs, _ => Step.refl hs
  | q :: r, s, hs, hq => by
    obtain ⟨h1, _⟩ := hg s q hs (hq q List.mem_cons_self)
    unfold staleF
    rcases hr : ask s q with ⟨s1, r1⟩
    rw [hr] at h1
    cases r1 with
    | error e => exact h1
    | ok x =>
      obtain ⟨v, ch⟩ := x
      simp only
      split
      · exact h1
      · exact h1.trans (staleF_good hg c r s1 h1.inv (fun x hx => hq x (List.mem_cons_of_mem _ hx)))
theorem PInv.open_ {E : Env} {on : List Int} {s : PS} (h : PInv E on s) {q : Int} (hq : InQ E q) (hn : q ∉ on) (hk : ∀ k, s.get q = some k → k.checked ≠ E.rev) : PInv E (q :: on) s :=
  ⟨h.alen, h.kok, h.dnd, h.dok, h.dmost, fun p hp => by
    rcases List.mem_cons.1 hp with rfl | hp
    · exact hq
    · exact h.onq p hp, List.nodup_cons.2 ⟨hn, h.ond⟩, fun p hp => by
    rcases List.mem_cons.1 hp with rfl | hp
    · exact hk
    · exact h.onk p hp⟩
theorem PInv.tail {E : Env} {on : List Int} {s : PS} {q : Int} (h : PInv E (q :: on) s) : PInv E on s :=
  ⟨h.alen, h.kok, h.dnd, h.dok, h.dmost, fun p hp => h.onq p (List.mem_cons_of_mem _ hp), (List.nodup_cons.1 h.ond).2, fun p hp => h.onk p (List.mem_cons_of_mem _ hp)⟩
theorem Step.tail {E : Env} {on : List Int} {s s' : PS} {q : Int} (h : Step E (q :: on) s s') : Step E on s s' := ⟨h.inv.tail, fun p hp => h.fix p (List.mem_cons_of_mem _ hp), h.more⟩
/-- A question gets its kept result, checked now. -/
theorem PInv.put {E : Env} {on : List Int} {s : PS} {q : Int} {k : KeptR} (h : PInv E (q :: on) s) (hk : KOk E k) : PInv E on (s.set q k) := by
  have hq := h.onq q List.mem_cons_self
  have hlt : q.toNat < s.ans.length := by rw [h.alen]; have := hq.1; have := hq.2; omega
  have hn := (List.nodup_cons.1 h.ond).1
  refine ⟨by simp [PS.set, h.alen], fun p kp hp hg => ?_, h.dnd, fun p hp => ?_, h.dmost, fun p hp => h.onq p (List.mem_cons_of_mem _ hp), (List.nodup_cons.1 h.ond).2, fun p hp kp hg => ?_⟩
  · by_cases e : p = q
    · subst e; rw [get_set_self hlt] at hg; injection hg with hg; exact hg ▸ hk
    · rw [get_set_other hq.1 hp.1 e] at hg; exact h.kok p kp hp hg
  · obtain ⟨hpq, kp, hkp, hc⟩ := h.dok p hp
    have e : p ≠ q := fun e => h.onk q List.mem_cons_self kp (e ▸ hkp) hc
    exact ⟨hpq, kp, by rw [get_set_other hq.1 hpq.1 e]; exact hkp, hc⟩
  · have e : p ≠ q := fun e => hn (e ▸ hp)
    rw [get_set_other hq.1 (h.onq p (List.mem_cons_of_mem _ hp)).1 e] at hg
    exact h.onk p (List.mem_cons_of_mem _ hp) kp hg
theorem Step.put {E : Env} {on : List Int} {s s1 : PS} {q : Int} {k : KeptR} (h : Step E (q :: on) s s1) (hk : KOk E k) : Step E on s (s1.set q k) := by
  refine ⟨h.inv.put hk, fun p hp => ?_, h.more⟩
  have e : p ≠ q := fun e => (List.nodup_cons.1 h.inv.ond).1 (e ▸ hp)
  rw [get_set_other (h.inv.onq q List.mem_cons_self).1 (h.inv.onq p (List.mem_cons_of_mem _ hp)).1 e]
  exact h.fix p (List.mem_cons_of_mem _ hp)
theorem workF_good {E : Env} (hE : EnvOk E) {on : List Int} {ask : AskFn} {q : Int} (hg : Good E (q :: on) ask) (hq : InQ E q) (was : Option KeptR) {s : PS} (hs : PInv E (q :: on) s) :
    Step E on s (workF E ask s q was).1 ∧ ∀ v c, (workF E ask s q was).2 = .ok (v, c) → 0 ≤ v ∧ v ≤ 1048576 := by
  obtain ⟨h1, hv⟩ := evalR_good hE hg (hE.rok _ (rule_mem hq)) hs
  unfold workF
  rcases he : evalR ask s (E.rule q) with ⟨s1, r1⟩
  rw [he] at h1 hv
  cases r1 with
  | error e => exact ⟨h1.tail, fun _ _ h => by cases h⟩
  | ok x =>
    obtain ⟨v, asked⟩ := x
    obtain ⟨hr, ha, hl⟩ := hv v asked rfl
    simp only
    split
    · exact ⟨h1.tail, fun _ _ h => by cases h⟩
    · rename_i hm
      have hko : KOk E { value := v, asked := asked, checked := E.rev, changed := chOf E.rev was v } := ⟨hr.1, hr.2, ha, hl⟩
      have hi := h1.inv
      have hlt : q.toNat < s1.ans.length := by rw [hi.alen]; have := hq.1; have := hq.2; omega
      have hp := h1.put hko
      have hnd : q ∉ s1.done := fun hd => by
        obtain ⟨_, k, hk, hc⟩ := hi.dok q hd
        exact hi.onk q List.mem_cons_self k hk hc
      refine ⟨⟨⟨by simpa [PS.set] using hp.inv.alen, hp.inv.kok, ?_, fun p hpd => ?_, ?_, hp.inv.onq, hp.inv.ond, hp.inv.onk⟩, hp.fix, ?_⟩, fun _ _ h => ?_⟩
      · show (s1.done ++ [q]).Nodup
        rw [List.nodup_append]
        exact ⟨hi.dnd, by simp, fun a ha b hb => by simp at hb; subst hb; rintro rfl; exact hnd ha⟩
      · have hpd' : p ∈ s1.done ++ [q] := hpd
        rcases List.mem_append.1 hpd' with hd | hd
        · exact hp.inv.dok p hd
        · rw [List.mem_singleton.1 hd]
          exact ⟨hq, _, get_set_self (s := s1) hlt, rfl⟩
      · show ((s1.done ++ [q]).length : Int) ≤ E.most
        simp; omega
      · obtain ⟨l, hl⟩ := h1.more
        exact ⟨l ++ [q], by show s1.done ++ [q] = _; rw [hl, List.append_assoc]⟩
      · injection h with h; injection h with h3 _; subst h3; exact hr
theorem askF_good {E : Env} (hE : EnvOk E) : ∀ (f : Nat) (on : List Int), Good E on (askF E f on)
  | 0, _, s, _, hs, _ => ⟨Step.refl hs, fun _ _ h => by cases h⟩
  | f + 1, on, s, q, hs, hq => by
    unfold askF
    split
    · rename_i hk
      refine ⟨Step.refl hs, fun v c h => ?_⟩
      injection h with h; injection h with h1 _; subst h1
      exact hE.ival q hq.1 hq.2 hk
    split
    · exact ⟨Step.refl hs, fun _ _ h => by cases h⟩
    rename_i hon
    cases hg : s.get q with
    | none =>
      have hs' : PInv E (q :: on) s := hs.open_ hq hon (fun k h => by rw [hg] at h; cases h)
      exact workF_good hE (askF_good hE f (q :: on)) hq none hs'
    | some k =>
      simp only
      have hko := hs.kok q k hq hg
      split
      · refine ⟨Step.refl hs, fun v c h => ?_⟩
        injection h with h; injection h with h1 _; subst h1
        exact ⟨hko.v0, hko.v1⟩
      · rename_i hc
        have hs' : PInv E (q :: on) s := hs.open_ hq hon (fun k' h => by rw [hg] at h; injection h with h; exact h ▸ hc)
        have h1 := staleF_good (askF_good hE f (q :: on)) k.checked k.asked s hs' hko.asked
        rcases he : staleF (askF E f (q :: on)) k.checked s k.asked with ⟨s1, r1⟩
        rw [he] at h1
        rcases r1 with e | b
        · exact ⟨h1.tail, fun _ _ h => by cases h⟩
        · cases b with
          | true =>
            obtain ⟨h2, hv⟩ := workF_good hE (askF_good hE f (q :: on)) hq (some k) h1.inv
            exact ⟨h1.tail.trans h2, hv⟩
          | false =>
            refine ⟨h1.put ⟨hko.v0, hko.v1, hko.asked, hko.alen⟩, fun v c h => ?_⟩
            injection h with h; injection h with h3 _; subst h3
            exact ⟨hko.v0, hko.v1⟩
end Go.Proofs.QM
