/-
  The plain model of questions that ask one another (layer 22): rules, kept results, asking with a bound on depth; and what stays true of it. No program in sight. No condition.
-/
import Derived.WalkKit
import Derived.WalkSpells
import Derived.WalkLawsBesides
import Derived.BigQuiet
import Derived.Lib.Hide
import Derived.Deep.LoopGhost
import Derived.Deep.DeepMust
import Derived.Deep.RegionHeld3
import Derived.Test.YtohpkolkagddiaaDoorChecked
import Derived.OrdersHeld
import Derived.Deep.AppendLies
namespace Go.Proofs.QM

structure QRule where
  kind : Int
  n : Int
  asks : List Int
deriving Inhabited, DecidableEq
structure KeptR where
  value : Int
  asked : List Int
  checked : Int
  changed : Int
deriving Inhabited, DecidableEq

/-- The bounds of a kind: few, many, low, high. -/
def bnds (k : Int) : Int × Int × Int × Int :=
  if k = 1 then (0, 0, 0, 0) else if k = 2 then (0, 12, 1, 1048576) else if k = 3 then (2, 12, 0, 0) else if k = 4 then (0, 12, 0, 0) else if k = 5 then (2, 2, 0, 0) else (1, 1, -1000, 1000)
def askOut (many : Int) (q : Int) : Bool := decide (q < 0) || decide (many ≤ q)
/-- The error of a rule among so many. -/
def ruleErr (many : Int) (r : QRule) : Int :=
  if r.kind < 1 ∨ 7 ≤ r.kind then 2
  else if r.n < (bnds r.kind).2.2.1 ∨ (bnds r.kind).2.2.2 < r.n then 2
  else if 12 < (r.asks.length : Int) then 3
  else if (r.asks.length : Int) < (bnds r.kind).1 ∨ (bnds r.kind).2.1 < (r.asks.length : Int) then 2
  else if r.asks.any (askOut many) then 5 else 0
def checkFrom (many : Int) : List QRule → Int → Int × Int
  | [], _ => (0, 0)
  | r :: rs, i => if ruleErr many r = 0 then checkFrom many rs (i + 1) else (i, ruleErr many r)
def check (rs : List QRule) : Int × Int := if 200 < rs.length then (0, 3) else checkFrom rs.length rs 0

structure Env where
  rules : List QRule
  inp : List Int
  inpCh : List Int
  rev : Int
  most : Int
structure PS where
  ans : List (Option KeptR)
  done : List Int
deriving DecidableEq
def Env.rule (E : Env) (q : Int) : QRule := E.rules.getD q.toNat default
def PS.get (s : PS) (q : Int) : Option KeptR := s.ans.getD q.toNat none
def PS.set (s : PS) (q : Int) (k : KeptR) : PS := { s with ans := s.ans.set q.toNat (some k) }
abbrev AskFn := PS → Int → PS × Except Int (Int × Int)

def askAll (ask : AskFn) (stop : Bool) : PS → List Int → PS × Except Int (List Int)
  | s, [] => (s, .ok [])
  | s, q :: r =>
    match ask s q with
    | (s1, .error e) => (s1, .error e)
    | (s1, .ok (v, _)) =>
      if stop = true ∧ v ≠ 0 then (s1, .ok [v]) else
      match askAll ask stop s1 r with
      | (s2, .error e) => (s2, .error e)
      | (s2, .ok vs) => (s2, .ok (v :: vs))
def answerOf (r : QRule) (got : List Int) : Int :=
  if r.kind = 2 then got.foldl (fun n x => (n + x) % r.n) 0
  else if r.kind = 4 then got.getLastD 0
  else if r.kind = 5 then (if got.getD 0 0 < got.getD 1 0 then 1 else 0)
  else min (max (got.getD 0 0 + r.n) 0) 1048576
def pickOf (r : QRule) (v : Int) : Int := r.asks.getD (1 + v % ((r.asks.length : Int) - 1)).toNat 0
def evalR (ask : AskFn) (s : PS) (r : QRule) : PS × Except Int (Int × List Int) :=
  if r.kind = 3 then
    match ask s (r.asks.getD 0 0) with
    | (s1, .error e) => (s1, .error e)
    | (s1, .ok (v, _)) =>
      match ask s1 (pickOf r v) with
      | (s2, .error e) => (s2, .error e)
      | (s2, .ok (u, _)) => (s2, .ok (u, [r.asks.getD 0 0, pickOf r v]))
  else
    match askAll ask (r.kind == 4) s r.asks with
    | (s1, .error e) => (s1, .error e)
    | (s1, .ok got) => (s1, .ok (answerOf r got, r.asks.take got.length))
def staleF (ask : AskFn) (checked : Int) : PS → List Int → PS × Except Int Bool
  | s, [] => (s, .ok false)
  | s, q :: r =>
    match ask s q with
    | (s1, .error e) => (s1, .error e)
    | (s1, .ok (_, ch)) => if checked < ch then (s1, .ok true) else staleF ask checked s1 r
def chOf (rev : Int) (was : Option KeptR) (v : Int) : Int :=
  match was with
  | some k => if k.value = v then k.changed else rev
  | none => rev
def workF (E : Env) (ask : AskFn) (s : PS) (q : Int) (was : Option KeptR) : PS × Except Int (Int × Int) :=
  match evalR ask s (E.rule q) with
  | (s1, .error e) => (s1, .error e)
  | (s1, .ok (v, asked)) =>
    if E.most ≤ s1.done.length then (s1, .error 13)
    else (({ s1 with done := s1.done ++ [q] } : PS).set q { value := v, asked := asked, checked := E.rev, changed := chOf E.rev was v }, .ok (v, chOf E.rev was v))
def askF (E : Env) : Nat → List Int → AskFn
  | 0, _, s, _ => (s, .error 99)
  | f + 1, on, s, q =>
    if (E.rule q).kind = 1 then (s, .ok (E.inp.getD q.toNat 0, E.inpCh.getD q.toNat 0))
    else if q ∈ on then (s, .error 8)
    else
      match s.get q with
      | some k =>
        if k.checked = E.rev then (s, .ok (k.value, k.changed))
        else
          match staleF (askF E f (q :: on)) k.checked s k.asked with
          | (s1, .error e) => (s1, .error e)
          | (s1, .ok true) => workF E (askF E f (q :: on)) s1 q (some k)
          | (s1, .ok false) => (s1.set q { k with checked := E.rev }, .ok (k.value, k.changed))
      | none => workF E (askF E f (q :: on)) s q none

/-! ### Rules that may be -/
structure ROk (many : Int) (r : QRule) : Prop where
  k1 : 1 ≤ r.kind
  k2 : r.kind ≤ 6
  n1 : (bnds r.kind).2.2.1 ≤ r.n
  n2 : r.n ≤ (bnds r.kind).2.2.2
  l12 : (r.asks.length : Int) ≤ 12
  l1 : (bnds r.kind).1 ≤ r.asks.length
  l2 : (r.asks.length : Int) ≤ (bnds r.kind).2.1
  asks : ∀ q ∈ r.asks, 0 ≤ q ∧ q < many
theorem rok_of {many : Int} {r : QRule} (h : ruleErr many r = 0) : ROk many r := by
  unfold ruleErr at h
  split at h
  · cases h
  split at h
  · cases h
  split at h
  · cases h
  split at h
  · cases h
  split at h
  · cases h
  rename_i h1 h2 h3 h4 h5
  refine ⟨by omega, by omega, by omega, by omega, by omega, by omega, by omega, fun q hq => ?_⟩
  have := h5
  simp only [List.any_eq_true, not_exists, not_and, Bool.not_eq_true] at this
  have := this q hq
  unfold askOut at this
  simp at this
  omega
theorem checkFrom_ok {many : Int} : ∀ {rs : List QRule} {i : Int}, 0 ≤ i → (checkFrom many rs i).2 = 0 → ∀ r ∈ rs, ruleErr many r = 0
  | [], _, _, _, _, h => by cases h
  | r :: rs, i, hi, h, x, hx => by
    unfold checkFrom at h
    split at h
    · rename_i h0
      rcases List.mem_cons.1 hx with rfl | hx
      · exact h0
      · exact checkFrom_ok (by omega) h x hx
    · rename_i h0; exact absurd h h0
theorem check_ok {rs : List QRule} (h : (check rs).2 = 0) : rs.length ≤ 200 ∧ ∀ r ∈ rs, ROk rs.length r := by
  unfold check at h
  split at h
  · cases h
  · rename_i hl
    exact ⟨by omega, fun r hr => rok_of (checkFrom_ok (by omega) h r hr)⟩

/-! ### What is true of an engine's rules, inputs and revision -/
structure EnvOk (E : Env) : Prop where
  len : E.rules.length ≤ 200
  rok : ∀ r ∈ E.rules, ROk E.rules.length r
  ilen : E.inp.length = E.rules.length
  clen : E.inpCh.length = E.rules.length
  ival : ∀ q : Int, 0 ≤ q → q < E.rules.length → (E.rule q).kind = 1 → 0 ≤ E.inp.getD q.toNat 0 ∧ E.inp.getD q.toNat 0 ≤ 1048576
  rev0 : 0 ≤ E.rev
  rev1 : E.rev ≤ 4611686018427387904
  most0 : 0 ≤ E.most
  most1 : E.most ≤ 9223372036854775807
def InQ (E : Env) (q : Int) : Prop := 0 ≤ q ∧ q < E.rules.length
theorem rule_mem {E : Env} {q : Int} (h : InQ E q) : E.rule q ∈ E.rules := by
  have hlt : q.toNat < E.rules.length := by have := h.1; have := h.2; omega
  unfold Env.rule
  rw [List.getD_eq_getElem?_getD, List.getElem?_eq_getElem hlt]
  exact List.getElem_mem hlt
structure KOk (E : Env) (k : KeptR) : Prop where
  v0 : 0 ≤ k.value
  v1 : k.value ≤ 1048576
  asked : ∀ a ∈ k.asked, InQ E a
  alen : k.asked.length ≤ 12
structure PInv (E : Env) (on : List Int) (s : PS) : Prop where
  alen : s.ans.length = E.rules.length
  kok : ∀ q k, InQ E q → s.get q = some k → KOk E k
  dnd : s.done.Nodup
  dok : ∀ q ∈ s.done, InQ E q ∧ ∃ k, s.get q = some k ∧ k.checked = E.rev
  dmost : (s.done.length : Int) ≤ E.most
  onq : ∀ q ∈ on, InQ E q
  ond : on.Nodup
  onk : ∀ q ∈ on, ∀ k, s.get q = some k → k.checked ≠ E.rev
theorem get_set_self {s : PS} {q : Int} {k : KeptR} (h : q.toNat < s.ans.length) : (s.set q k).get q = some k := by
  unfold PS.get PS.set; simp [h]
theorem get_set_other {s : PS} {q p : Int} {k : KeptR} (hq : 0 ≤ q) (hp : 0 ≤ p) (h : p ≠ q) : (s.set q k).get p = s.get p := by
  unfold PS.get PS.set
  have : q.toNat ≠ p.toNat := by omega
  simp [List.getElem?_set_ne this]
theorem nodup_length {n : Nat} : ∀ {l : List Int}, l.Nodup → (∀ q ∈ l, 0 ≤ q ∧ q < n) → l.length ≤ n := by
  induction n with
  | zero =>
    intro l _ h
    cases l with
    | nil => simp
    | cons x r => have := h x List.mem_cons_self; omega
  | succ n ih =>
    intro l hn h
    have h1 : (l.erase (n : Int)).length ≤ n := ih (hn.erase _) (fun q hq => by
      have hm := (List.Nodup.mem_erase_iff hn).1 hq
      have := h q hm.2
      have := hm.1
      omega)
    have h2 : l.length ≤ (l.erase (n : Int)).length + 1 := by
      rw [List.length_erase]; split <;> omega
    omega
theorem PInv.dlen {E : Env} {on : List Int} {s : PS} (h : PInv E on s) : s.done.length ≤ E.rules.length := nodup_length h.dnd (fun q hq => (h.dok q hq).1)
theorem PInv.onlen {E : Env} {on : List Int} {s : PS} (h : PInv E on s) : on.length ≤ E.rules.length := nodup_length h.ond h.onq
/-- What asking does to what is known: questions that are open stay as they are, what is done grows. -/
structure Step (E : Env) (on : List Int) (s s' : PS) : Prop where
  inv : PInv E on s'
  fix : ∀ p ∈ on, s'.get p = s.get p
  more : ∃ l, s'.done = s.done ++ l
theorem Step.refl {E : Env} {on : List Int} {s : PS} (h : PInv E on s) : Step E on s s := ⟨h, fun _ _ => rfl, [], by simp⟩
theorem Step.trans {E : Env} {on : List Int} {a b c : PS} (h : Step E on a b) (k : Step E on b c) : Step E on a c :=
  ⟨k.inv, fun p hp => (k.fix p hp).trans (h.fix p hp), by obtain ⟨l, hl⟩ := h.more; obtain ⟨m, hm⟩ := k.more; exact ⟨l ++ m, by rw [hm, hl, List.append_assoc]⟩⟩
/-- What is asked of an asking function under 'on'. -/
def Good (E : Env) (on : List Int) (ask : AskFn) : Prop :=
  ∀ s q, PInv E on s → InQ E q → Step E on s (ask s q).1 ∧ ∀ v c, (ask s q).2 = .ok (v, c) → 0 ≤ v ∧ v ≤ 1048576
theorem askAll_good {E : Env} {on : List Int} {ask : AskFn} (hg : Good E on ask) (stop : Bool) : ∀ (l : List Int) (s : PS), PInv E on s → (∀ q ∈ l, InQ E q) →
    Step E on s (askAll ask stop s l).1 ∧ ∀ got, (askAll ask stop s l).2 = .ok got → got.length ≤ l.length ∧ (∀ v ∈ got, 0 ≤ v ∧ v ≤ 1048576) ∧ (stop = false → got.length = l.length)
  | [], s, hs, _ => ⟨Step.refl hs, fun got h => by simp [askAll] at h; subst h; simp⟩
  | q :: r, s, hs, hq => by
    obtain ⟨h1, hv⟩ := hg s q hs (hq q List.mem_cons_self)
    unfold askAll
    rcases hr : ask s q with ⟨s1, r1⟩
    rw [hr] at h1 hv
    cases r1 with
    | error e => exact ⟨h1, fun got h => by cases h⟩
    | ok x =>
      obtain ⟨v, c⟩ := x
      have hv := hv v c rfl
      simp only
      split
      · rename_i hst
        refine ⟨h1, fun got h => ?_⟩
        injection h with h; subst h
        exact ⟨by simp, by simpa using hv, fun h => by rw [hst.1] at h; cases h⟩
      · obtain ⟨h2, hl⟩ := askAll_good hg stop r s1 h1.inv (fun x hx => hq x (List.mem_cons_of_mem _ hx))
        rcases hr2 : askAll ask stop s1 r with ⟨s2, r2⟩
        rw [hr2] at h2 hl
        cases r2 with
        | error e => exact ⟨h1.trans h2, fun got h => by cases h⟩
        | ok vs =>
          refine ⟨h1.trans h2, fun got h => ?_⟩
          injection h with h; subst h
          obtain ⟨l1, l2, l3⟩ := hl vs rfl
          refine ⟨by simp; omega, fun u hu => ?_, fun hst => by simp [l3 hst]⟩
          rcases List.mem_cons.1 hu with rfl | hu
          · exact hv
          · exact l2 u hu
theorem answerOf_range {many : Int} {r : QRule} {got : List Int} (h : ROk many r) (hg : ∀ v ∈ got, 0 ≤ v ∧ v ≤ 1048576) : 0 ≤ answerOf r got ∧ answerOf r got ≤ 1048576 := by
  unfold answerOf
  split
  · rename_i hk
    have h1 := h.n1; have h2 := h.n2
    rw [hk] at h1 h2
    simp [bnds] at h1 h2
    have key : ∀ (l : List Int) (a : Int), 0 ≤ a ∧ a ≤ 1048576 → 0 ≤ l.foldl (fun n x => (n + x) % r.n) a ∧ l.foldl (fun n x => (n + x) % r.n) a ≤ 1048576 := by
      intro l
      induction l with
      | nil => exact fun a ha => ha
      | cons x l ih =>
        intro a _
        have a1 := Int.emod_nonneg (a + x) (show r.n ≠ 0 by omega)
        have a2 := Int.emod_lt_of_pos (a + x) (show 0 < r.n by omega)
        exact ih ((a + x) % r.n) ⟨a1, by omega⟩
    exact key got 0 (by omega)
  · split
    · cases got with
      | nil => simp
      | cons x l =>
        have hm : (x :: l).getLastD 0 ∈ (x :: l) := by
          rw [List.getLastD_eq_getLast?]
          rw [List.getLast?_eq_some_getLast (by simp)]
          exact List.getLast_mem _
        exact hg _ hm
    · split
      · split <;> omega
      · omega
theorem pick_mem {E : Env} {r : QRule} {v : Int} (h : ROk E.rules.length r) (hk : r.kind = 3) (_hv : 0 ≤ v) : InQ E (pickOf r v) ∧ InQ E (r.asks.getD 0 0) := by
  have l1 := h.l1
  rw [hk] at l1; simp [bnds] at l1
  have hpos : 0 < (r.asks.length : Int) - 1 := by omega
  have a1 := Int.emod_nonneg v (show (r.asks.length : Int) - 1 ≠ 0 by omega)
  have a2 := Int.emod_lt_of_pos v hpos
  refine ⟨?_, ?_⟩
  · unfold pickOf
    have hlt : (1 + v % ((r.asks.length : Int) - 1)).toNat < r.asks.length := by omega
    rw [List.getD_eq_getElem?_getD, List.getElem?_eq_getElem hlt]
    exact h.asks _ (List.getElem_mem hlt)
  · have hlt : 0 < r.asks.length := by omega
    rw [List.getD_eq_getElem?_getD, List.getElem?_eq_getElem hlt]
    exact h.asks _ (List.getElem_mem hlt)
theorem evalR_good {E : Env} (_hE : EnvOk E) {on : List Int} {ask : AskFn} (hg : Good E on ask) {r : QRule} (hr : ROk E.rules.length r) {s : PS} (hs : PInv E on s) :
    Step E on s (evalR ask s r).1 ∧ ∀ v asked, (evalR ask s r).2 = .ok (v, asked) → (0 ≤ v ∧ v ≤ 1048576) ∧ (∀ a ∈ asked, InQ E a) ∧ asked.length ≤ 12 := by
  have l12 := hr.l12
  unfold evalR
  split
  · rename_i hk
    obtain ⟨_, hq0⟩ := pick_mem (v := 0) hr hk (by omega)
    obtain ⟨h1, hv⟩ := hg s _ hs hq0
    rcases he : ask s (r.asks.getD 0 0) with ⟨s1, r1⟩
    rw [he] at h1 hv
    cases r1 with
    | error e => exact ⟨h1, fun _ _ h => by cases h⟩
    | ok x =>
      obtain ⟨v, c⟩ := x
      have hv := hv v c rfl
      obtain ⟨hqp, _⟩ := pick_mem hr hk hv.1
      obtain ⟨h2, hv2⟩ := hg s1 _ h1.inv hqp
      simp only
      rcases he2 : ask s1 (pickOf r v) with ⟨s2, r2⟩
      rw [he2] at h2 hv2
      cases r2 with
      | error e => exact ⟨h1.trans h2, fun _ _ h => by cases h⟩
      | ok y =>
        obtain ⟨u, d⟩ := y
        refine ⟨h1.trans h2, fun v' asked h => ?_⟩
        injection h with h; injection h with h3 h4; subst h3; subst h4
        refine ⟨hv2 u d rfl, fun a ha => ?_, by simp⟩
        simp at ha
        rcases ha with rfl | rfl
        · simpa using hq0
        · exact hqp
  · obtain ⟨h1, hl⟩ := askAll_good hg (r.kind == 4) r.asks s hs hr.asks
    rcases he : askAll ask (r.kind == 4) s r.asks with ⟨s1, r1⟩
    rw [he] at h1 hl
    cases r1 with
    | error e => exact ⟨h1, fun _ _ h => by cases h⟩
    | ok got =>
      obtain ⟨l1, l2, _⟩ := hl got rfl
      refine ⟨h1, fun v asked h => ?_⟩
      injection h with h; injection h with h3 h4; subst h3; subst h4
      exact ⟨answerOf_range hr l2, fun a ha => hr.asks a (List.mem_of_mem_take ha), by simp; omega⟩
theorem staleF_good {E : Env} {on : List Int} {ask : AskFn} (hg : Good E on ask) (c : Int) : ∀ (l : List Int) (s : PS), PInv E on s → (∀ q ∈ l, InQ E q) → Step E on s (staleF ask c s l).1
  | [], s, hs, _ => Step.refl hs
  | q :: r, s, hs, hq => by
    obtain ⟨h1, _⟩ := hg s q hs (hq q List.mem_cons_self)
    unfold staleF
    rcases hr : ask s q with ⟨s1, r1⟩
    rw [hr] at h1
    cases r1 with
    | error e => exact h1
    | ok x =>
      obtain ⟨v, ch⟩ := x
      simp only
      split
      · exact h1
      · exact h1.trans (staleF_good hg c r s1 h1.inv (fun x hx => hq x (List.mem_cons_of_mem _ hx)))
theorem PInv.open_ {E : Env} {on : List Int} {s : PS} (h : PInv E on s) {q : Int} (hq : InQ E q) (hn : q ∉ on) (hk : ∀ k, s.get q = some k → k.checked ≠ E.rev) : PInv E (q :: on) s :=
  ⟨h.alen, h.kok, h.dnd, h.dok, h.dmost, fun p hp => by
    rcases List.mem_cons.1 hp with rfl | hp
    · exact hq
    · exact h.onq p hp, List.nodup_cons.2 ⟨hn, h.ond⟩, fun p hp => by
    rcases List.mem_cons.1 hp with rfl | hp
    · exact hk
    · exact h.onk p hp⟩
theorem PInv.tail {E : Env} {on : List Int} {s : PS} {q : Int} (h : PInv E (q :: on) s) : PInv E on s :=
  ⟨h.alen, h.kok, h.dnd, h.dok, h.dmost, fun p hp => h.onq p (List.mem_cons_of_mem _ hp), (List.nodup_cons.1 h.ond).2, fun p hp => h.onk p (List.mem_cons_of_mem _ hp)⟩
theorem Step.tail {E : Env} {on : List Int} {s s' : PS} {q : Int} (h : Step E (q :: on) s s') : Step E on s s' := ⟨h.inv.tail, fun p hp => h.fix p (List.mem_cons_of_mem _ hp), h.more⟩
/-- A question gets its kept result, checked now. -/
theorem PInv.put {E : Env} {on : List Int} {s : PS} {q : Int} {k : KeptR} (h : PInv E (q :: on) s) (hk : KOk E k) : PInv E on (s.set q k) := by
  have hq := h.onq q List.mem_cons_self
  have hlt : q.toNat < s.ans.length := by rw [h.alen]; have := hq.1; have := hq.2; omega
  have hn := (List.nodup_cons.1 h.ond).1
  refine ⟨by simp [PS.set, h.alen], fun p kp hp hg => ?_, h.dnd, fun p hp => ?_, h.dmost, fun p hp => h.onq p (List.mem_cons_of_mem _ hp), (List.nodup_cons.1 h.ond).2, fun p hp kp hg => ?_⟩
  · by_cases e : p = q
    · subst e; rw [get_set_self hlt] at hg; injection hg with hg; exact hg ▸ hk
    · rw [get_set_other hq.1 hp.1 e] at hg; exact h.kok p kp hp hg
  · obtain ⟨hpq, kp, hkp, hc⟩ := h.dok p hp
    have e : p ≠ q := fun e => h.onk q List.mem_cons_self kp (e ▸ hkp) hc
    exact ⟨hpq, kp, by rw [get_set_other hq.1 hpq.1 e]; exact hkp, hc⟩
  · have e : p ≠ q := fun e => hn (e ▸ hp)
    rw [get_set_other hq.1 (h.onq p (List.mem_cons_of_mem _ hp)).1 e] at hg
    exact h.onk p (List.mem_cons_of_mem _ hp) kp hg
theorem Step.put {E : Env} {on : List Int} {s s1 : PS} {q : Int} {k : KeptR} (h : Step E (q :: on) s s1) (hk : KOk E k) : Step E on s (s1.set q k) := by
  refine ⟨h.inv.put hk, fun p hp => ?_, h.more⟩
  have e : p ≠ q := fun e => (List.nodup_cons.1 h.inv.ond).1 (e ▸ hp)
  rw [get_set_other (h.inv.onq q List.mem_cons_self).1 (h.inv.onq p (List.mem_cons_of_mem _ hp)).1 e]
  exact h.fix p (List.mem_cons_of_mem _ hp)
theorem workF_good {E : Env} (hE : EnvOk E) {on : List Int} {ask : AskFn} {q : Int} (hg : Good E (q :: on) ask) (hq : InQ E q) (was : Option KeptR) {s : PS} (hs : PInv E (q :: on) s) :
    Step E on s (workF E ask s q was).1 ∧ ∀ v c, (workF E ask s q was).2 = .ok (v, c) → 0 ≤ v ∧ v ≤ 1048576 := by
  obtain ⟨h1, hv⟩ := evalR_good hE hg (hE.rok _ (rule_mem hq)) hs
  unfold workF
  rcases he : evalR ask s (E.rule q) with ⟨s1, r1⟩
  rw [he] at h1 hv
  cases r1 with
  | error e => exact ⟨h1.tail, fun _ _ h => by cases h⟩
  | ok x =>
    obtain ⟨v, asked⟩ := x
    obtain ⟨hr, ha, hl⟩ := hv v asked rfl
    simp only
    split
    · exact ⟨h1.tail, fun _ _ h => by cases h⟩
    · rename_i hm
      have hko : KOk E { value := v, asked := asked, checked := E.rev, changed := chOf E.rev was v } := ⟨hr.1, hr.2, ha, hl⟩
      have hi := h1.inv
      have hlt : q.toNat < s1.ans.length := by rw [hi.alen]; have := hq.1; have := hq.2; omega
      have hp := h1.put hko
      have hnd : q ∉ s1.done := fun hd => by
        obtain ⟨_, k, hk, hc⟩ := hi.dok q hd
        exact hi.onk q List.mem_cons_self k hk hc
      refine ⟨⟨⟨by simpa [PS.set] using hp.inv.alen, hp.inv.kok, ?_, fun p hpd => ?_, ?_, hp.inv.onq, hp.inv.ond, hp.inv.onk⟩, hp.fix, ?_⟩, fun _ _ h => ?_⟩
      · show (s1.done ++ [q]).Nodup
        rw [List.nodup_append]
        exact ⟨hi.dnd, by simp, fun a ha b hb => by simp at hb; subst hb; rintro rfl; exact hnd ha⟩
      · have hpd' : p ∈ s1.done ++ [q] := hpd
        rcases List.mem_append.1 hpd' with hd | hd
        · exact hp.inv.dok p hd
        · rw [List.mem_singleton.1 hd]
          exact ⟨hq, _, get_set_self (s := s1) hlt, rfl⟩
      · show ((s1.done ++ [q]).length : Int) ≤ E.most
        simp; omega
      · obtain ⟨l, hl⟩ := h1.more
        exact ⟨l ++ [q], by show s1.done ++ [q] = _; rw [hl, List.append_assoc]⟩
      · injection h with h; injection h with h3 _; subst h3; exact hr
theorem askF_good {E : Env} (hE : EnvOk E) : ∀ (f : Nat) (on : List Int), Good E on (askF E f on)
  | 0, _, s, _, hs, _ => ⟨Step.refl hs, fun _ _ h => by cases h⟩
  | f + 1, on, s, q, hs, hq => by
    unfold askF
    split
    · rename_i hk
      refine ⟨Step.refl hs, fun v c h => ?_⟩
      injection h with h; injection h with h1 _; subst h1
      exact hE.ival q hq.1 hq.2 hk
    split
    · exact ⟨Step.refl hs, fun _ _ h => by cases h⟩
    rename_i hon
    cases hg : s.get q with
    | none =>
      have hs' : PInv E (q :: on) s := hs.open_ hq hon (fun k h => by rw [hg] at h; cases h)
      exact workF_good hE (askF_good hE f (q :: on)) hq none hs'
    | some k =>
      simp only
      have hko := hs.kok q k hq hg
      split
      · refine ⟨Step.refl hs, fun v c h => ?_⟩
        injection h with h; injection h with h1 _; subst h1
        exact ⟨hko.v0, hko.v1⟩
      · rename_i hc
        have hs' : PInv E (q :: on) s := hs.open_ hq hon (fun k' h => by rw [hg] at h; injection h with h; exact h ▸ hc)
        have h1 := staleF_good (askF_good hE f (q :: on)) k.checked k.asked s hs' hko.asked
        rcases he : staleF (askF E f (q :: on)) k.checked s k.asked with ⟨s1, r1⟩
        rw [he] at h1
        rcases r1 with e | b
        · exact ⟨h1.tail, fun _ _ h => by cases h⟩
        · cases b with
          | true =>
            obtain ⟨h2, hv⟩ := workF_good hE (askF_good hE f (q :: on)) hq (some k) h1.inv
            exact ⟨h1.tail.trans h2, hv⟩
          | false =>
            refine ⟨h1.put ⟨hko.v0, hko.v1, hko.asked, hko.alen⟩, fun v c h => ?_⟩
            injection h with h; injection h with h3 _; subst h3
            exact ⟨hko.v0, hko.v1⟩
end Go.Proofs.QM

/-
  What a question's value is for given inputs, with neither an engine nor anything that is kept: a value with fuel, and what a rule asks on the way. No program in sight. No condition.
-/
namespace Go.Proofs.QM

def pvAll (g : Int → Option Int) (stop : Bool) : List Int → Option (List Int)
  | [] => some []
  | q :: r =>
    match g q with
    | none => none
    | some v => if stop = true ∧ v ≠ 0 then some [v] else (pvAll g stop r).map (v :: ·)
def pvRule (g : Int → Option Int) (r : QRule) : Option (Int × List Int) :=
  if r.kind = 3 then
    match g (r.asks.getD 0 0) with
    | none => none
    | some v => (g (pickOf r v)).map fun u => (u, [r.asks.getD 0 0, pickOf r v])
  else (pvAll g (r.kind == 4) r.asks).map fun got => (answerOf r got, r.asks.take got.length)
def pv (rules : List QRule) (inp : List Int) : Nat → Int → Option Int
  | 0, _ => none
  | f + 1, q => if (rules.getD q.toNat default).kind = 1 then some (inp.getD q.toNat 0) else (pvRule (pv rules inp f) (rules.getD q.toNat default)).map (·.1)
def Val (rules : List QRule) (inp : List Int) (q v : Int) : Prop := ∃ f, pv rules inp f q = some v

theorem pvAll_agree {g g' : Int → Option Int} {stop : Bool} : ∀ {l got : List Int}, pvAll g stop l = some got → (∀ a ∈ l.take got.length, ∀ u, g a = some u → g' a = some u) → pvAll g' stop l = some got
  | [], got, h, _ => by simpa [pvAll] using h
  | q :: r, got, h, ha => by
    unfold pvAll at h ⊢
    cases hq : g q with
    | none => rw [hq] at h; cases h
    | some v =>
      rw [hq] at h
      simp only at h
      by_cases hs : stop = true ∧ v ≠ 0
      · rw [if_pos hs] at h
        injection h with h
        subst h
        rw [ha q (by simp) v hq]
        simp only [if_pos hs]
      · rw [if_neg hs] at h
        obtain ⟨vs, hvs, rfl⟩ := Option.map_eq_some_iff.1 h
        rw [ha q (by simp) v hq]
        simp only [if_neg hs]
        rw [pvAll_agree hvs (fun a hm u hu => ha a (by simp [hm]) u hu)]
        rfl
theorem pvAll_some {g : Int → Option Int} {stop : Bool} : ∀ {l got : List Int}, pvAll g stop l = some got → ∀ a ∈ l.take got.length, ∃ v, g a = some v
  | [], got, h, a, ha => by simp at ha
  | q :: r, got, h, a, ha => by
    unfold pvAll at h
    cases hq : g q with
    | none => rw [hq] at h; cases h
    | some v =>
      rw [hq] at h
      simp only at h
      by_cases hs : stop = true ∧ v ≠ 0
      · rw [if_pos hs] at h
        injection h with h
        subst h
        simp at ha
        exact ⟨v, by rw [ha]; exact hq⟩
      · rw [if_neg hs] at h
        obtain ⟨vs, hvs, rfl⟩ := Option.map_eq_some_iff.1 h
        simp at ha
        rcases ha with rfl | ha
        · exact ⟨v, hq⟩
        · exact pvAll_some hvs a ha
theorem pvAll_len {g : Int → Option Int} {stop : Bool} : ∀ {l got : List Int}, pvAll g stop l = some got → got.length ≤ l.length
  | [], got, h => by simp [pvAll] at h; simp [h]
  | q :: r, got, h => by
    unfold pvAll at h
    cases hq : g q with
    | none => rw [hq] at h; cases h
    | some v =>
      rw [hq] at h
      simp only at h
      by_cases hs : stop = true ∧ v ≠ 0
      · rw [if_pos hs] at h; injection h with h; subst h; simp
      · rw [if_neg hs] at h
        obtain ⟨vs, hvs, rfl⟩ := Option.map_eq_some_iff.1 h
        have := pvAll_len hvs
        simp; omega
/-- Of two ways through a list that agree up to a place, the other one comes to that place too. -/
theorem pvAll_next {g g' : Int → Option Int} {stop : Bool} : ∀ {l got : List Int}, pvAll g stop l = some got → (pvAll g' stop l).isSome = true → ∀ n, n < got.length → (∀ i, i < n → ∀ u, g' (l.getD i 0) = some u → g (l.getD i 0) = some u) → (g' (l.getD n 0)).isSome = true
  | [], got, h, _, n, hn, _ => by simp [pvAll] at h; subst h; simp at hn
  | q :: r, got, h, h', n, hn, ha => by
    unfold pvAll at h h'
    cases hq' : g' q with
    | none => rw [hq'] at h'; simp at h'
    | some u =>
      cases n with
      | zero => simpa using (by rw [hq']; rfl : (g' q).isSome = true)
      | succ n =>
        have hu := ha 0 (by omega) u (by simpa using hq')
        simp only [List.getD_cons_zero] at hu
        rw [hu] at h
        rw [hq'] at h'
        simp only at h h'
        by_cases hs : stop = true ∧ u ≠ 0
        · rw [if_pos hs] at h
          injection h with h
          subst h
          simp at hn
        · rw [if_neg hs] at h h'
          obtain ⟨vs, hvs, rfl⟩ := Option.map_eq_some_iff.1 h
          rw [Option.isSome_map] at h'
          simpa using pvAll_next hvs h' n (by simpa using hn) (fun i hi u hu => by simpa using ha (i + 1) (by omega) u (by simpa using hu))
theorem pvRule_agree {g g' : Int → Option Int} {r : QRule} {v : Int} {asked : List Int} (h : pvRule g r = some (v, asked)) (ha : ∀ a ∈ asked, ∀ u, g a = some u → g' a = some u) : pvRule g' r = some (v, asked) := by
  unfold pvRule at h ⊢
  by_cases hk : r.kind = 3
  · rw [if_pos hk] at h ⊢
    cases h0 : g (r.asks.getD 0 0) with
    | none => rw [h0] at h; cases h
    | some x =>
      rw [h0] at h
      simp only at h
      obtain ⟨u, hu, he⟩ := Option.map_eq_some_iff.1 h
      injection he with h1 h2
      subst h2
      rw [ha _ (by simp) x h0]
      simp only
      rw [ha _ (by simp) u hu, ← h1]
      rfl
  · rw [if_neg hk] at h ⊢
    obtain ⟨got, hgot, he⟩ := Option.map_eq_some_iff.1 h
    injection he with h1 h2
    subst h2
    rw [pvAll_agree hgot ha, ← h1]
    rfl
theorem pvRule_some {g : Int → Option Int} {r : QRule} {v : Int} {asked : List Int} (h : pvRule g r = some (v, asked)) : ∀ a ∈ asked, ∃ v, g a = some v := by
  unfold pvRule at h
  by_cases hk : r.kind = 3
  · rw [if_pos hk] at h
    cases h0 : g (r.asks.getD 0 0) with
    | none => rw [h0] at h; cases h
    | some x =>
      rw [h0] at h
      simp only at h
      obtain ⟨u, hu, he⟩ := Option.map_eq_some_iff.1 h
      injection he with h1 h2
      subst h2
      intro a ha
      simp at ha
      rcases ha with rfl | rfl
      · exact ⟨x, by simpa using h0⟩
      · exact ⟨u, hu⟩
  · rw [if_neg hk] at h
    obtain ⟨got, hgot, he⟩ := Option.map_eq_some_iff.1 h
    injection he with h1 h2
    subst h2
    exact pvAll_some hgot
theorem pvRule_next {g g' : Int → Option Int} {r : QRule} {v : Int} {asked : List Int} (h : pvRule g r = some (v, asked)) (h' : (pvRule g' r).isSome = true) (n : Nat) (hn : n < asked.length) (ha : ∀ i, i < n → ∀ u, g' (asked.getD i 0) = some u → g (asked.getD i 0) = some u) : (g' (asked.getD n 0)).isSome = true := by
  unfold pvRule at h h'
  by_cases hk : r.kind = 3
  · rw [if_pos hk] at h h'
    cases h0 : g (r.asks.getD 0 0) with
    | none => rw [h0] at h; cases h
    | some x =>
      rw [h0] at h
      simp only at h
      obtain ⟨u, hu, he⟩ := Option.map_eq_some_iff.1 h
      injection he with h1 h2
      subst h2
      cases h0' : g' (r.asks.getD 0 0) with
      | none => rw [h0'] at h'; simp at h'
      | some x' =>
        rw [h0'] at h'
        simp only [Option.isSome_map] at h'
        match n, hn with
        | 0, _ => simpa using (by rw [h0']; rfl : (g' (r.asks.getD 0 0)).isSome = true)
        | 1, _ =>
          have := ha 0 (by omega) x' (by simpa using h0')
          simp only [List.getD_cons_zero] at this
          rw [h0] at this
          injection this with this
          subst this
          simpa using h'
  · rw [if_neg hk] at h h'
    obtain ⟨got, hgot, he⟩ := Option.map_eq_some_iff.1 h
    injection he with h1 h2
    subst h2
    rw [Option.isSome_map] at h'
    have hl := pvAll_len hgot
    rw [List.length_take, Nat.min_eq_left hl] at hn
    have hg : ∀ i, i < got.length → (r.asks.take got.length).getD i 0 = r.asks.getD i 0 := fun i hi => by
      rw [List.getD_eq_getElem?_getD, List.getElem?_take, if_pos hi, List.getD_eq_getElem?_getD]
    rw [hg n hn]
    refine pvAll_next hgot h' n hn (fun i hi u hu => ?_)
    have := ha i hi u (by rw [hg i (by omega)]; exact hu)
    rwa [hg i (by omega)] at this
section
variable {rules : List QRule} {inp : List Int}
theorem pv_succ : ∀ {f : Nat} {q v : Int}, pv rules inp f q = some v → pv rules inp (f + 1) q = some v
  | 0, q, v, h => by cases h
  | f + 1, q, v, h => by
    unfold pv at h ⊢
    by_cases hk : (rules.getD q.toNat default).kind = 1
    · rw [if_pos hk] at h ⊢; exact h
    · rw [if_neg hk] at h ⊢
      obtain ⟨⟨x, asked⟩, hx, he⟩ := Option.map_eq_some_iff.1 h
      rw [pvRule_agree hx (fun a _ u hu => pv_succ hu)]
      exact congrArg some he
theorem pv_mono {f f' : Nat} (h : f ≤ f') {q v : Int} (hv : pv rules inp f q = some v) : pv rules inp f' q = some v := by
  induction h with
  | refl => exact hv
  | step _ ih => exact pv_succ ih
theorem pv_unique {f f' : Nat} {q v v' : Int} (h : pv rules inp f q = some v) (h' : pv rules inp f' q = some v') : v = v' := by
  have h1 := pv_mono (Nat.le_max_left f f') h
  have h2 := pv_mono (Nat.le_max_right f f') h'
  rw [h1] at h2
  injection h2
theorem Val.unique {q v v' : Int} (h : Val rules inp q v) (h' : Val rules inp q v') : v = v' := by
  obtain ⟨f, hf⟩ := h
  obtain ⟨f', hf'⟩ := h'
  exact pv_unique hf hf'
theorem pvAll_mono {f f' : Nat} (h : f ≤ f') {stop : Bool} {l got : List Int} (hv : pvAll (pv rules inp f) stop l = some got) : pvAll (pv rules inp f') stop l = some got := pvAll_agree hv (fun _ _ _ hu => pv_mono h hu)
theorem pvRule_mono {f f' : Nat} (h : f ≤ f') {r : QRule} {x : Int × List Int} (hv : pvRule (pv rules inp f) r = some x) : pvRule (pv rules inp f') r = some x := pvRule_agree hv (fun _ _ _ hu => pv_mono h hu)
theorem pv_input {q : Int} (hk : (rules.getD q.toNat default).kind = 1) (f : Nat) : pv rules inp (f + 1) q = some (inp.getD q.toNat 0) := by unfold pv; rw [if_pos hk]
theorem pv_rule {q : Int} (hk : (rules.getD q.toNat default).kind ≠ 1) (f : Nat) : pv rules inp (f + 1) q = (pvRule (pv rules inp f) (rules.getD q.toNat default)).map (·.1) := by
  show (if _ then _ else _) = _
  rw [if_neg hk]
/-- A value comes by a rule of less fuel. -/
theorem pv_down {q : Int} (hk : (rules.getD q.toNat default).kind ≠ 1) {f : Nat} {v : Int} (h : pv rules inp f q = some v) : ∃ g, g < f ∧ (pvRule (pv rules inp g) (rules.getD q.toNat default)).isSome = true := by
  cases f with
  | zero => cases h
  | succ f =>
    rw [pv_rule hk] at h
    obtain ⟨x, hx, _⟩ := Option.map_eq_some_iff.1 h
    exact ⟨f, by omega, by rw [hx]; rfl⟩
end
end Go.Proofs.QM

/-
  What an engine keeps is right: whatever was set, asked and forgotten before, asking comes to the value for the inputs as they are. No program in sight. No condition.
-/
namespace Go.Proofs.QM
set_option linter.unusedVariables false

abbrev Hist := Int → List Int
/-- What shows of a question: its value, and when it changed. -/
def Has (E : Env) (s : PS) (a v ch : Int) : Prop := ((E.rule a).kind = 1 ∧ v = E.inp.getD a.toNat 0 ∧ ch = E.inpCh.getD a.toNat 0) ∨ ((E.rule a).kind ≠ 1 ∧ ∃ k, s.get a = some k ∧ k.value = v ∧ k.changed = ch)
/-- The same, checked in this revision. -/
def Cur (E : Env) (s : PS) (a v ch : Int) : Prop := ((E.rule a).kind = 1 ∧ v = E.inp.getD a.toNat 0 ∧ ch = E.inpCh.getD a.toNat 0) ∨ ((E.rule a).kind ≠ 1 ∧ ∃ k, s.get a = some k ∧ k.checked = E.rev ∧ k.value = v ∧ k.changed = ch)
structure HInv (E : Env) (hist : Hist) (s : PS) : Prop where
  now : hist E.rev = E.inp
  le : ∀ q k, InQ E q → s.get q = some k → k.checked ≤ E.rev
  tr : ∀ q k, InQ E q → s.get q = some k → ∃ f, pvRule (pv E.rules (hist k.checked) f) (E.rule q) = some (k.value, k.asked)
  chg : ∀ p kp, InQ E p → s.get p = some kp → ∀ a ∈ kp.asked, ∀ v ch, Has E s a v ch → ch ≤ kp.checked → Val E.rules (hist kp.checked) a v
  nin : ∀ q k, InQ E q → s.get q = some k → (E.rule q).kind ≠ 1
  asked : ∀ q k, InQ E q → s.get q = some k → ∀ a ∈ k.asked, InQ E a
def Stay (E : Env) (s s' : PS) : Prop := ∀ p k, InQ E p → s.get p = some k → k.checked = E.rev → s'.get p = some k
theorem Stay.refl {E : Env} (s : PS) : Stay E s s := fun _ _ _ h _ => h
theorem Stay.trans {E : Env} {a b c : PS} (h : Stay E a b) (k : Stay E b c) : Stay E a c := fun p kp hp hk hc => k p kp hp (h p kp hp hk hc) hc
theorem Cur.stay {E : Env} {s s' : PS} {a v ch : Int} (h : Cur E s a v ch) (ha : InQ E a) (hs : Stay E s s') : Cur E s' a v ch := by
  rcases h with h | ⟨h, k, h1, h2, h3, h4⟩
  · exact .inl h
  · exact .inr ⟨h, k, hs a k ha h1 h2, h2, h3, h4⟩
theorem Cur.has {E : Env} {s : PS} {a v ch : Int} (h : Cur E s a v ch) : Has E s a v ch := by
  rcases h with h | ⟨h, k, h1, h2, h3, h4⟩
  · exact .inl h
  · exact .inr ⟨h, k, h1, h3, h4⟩
/-- Every open question needs q's value for its own. -/
def Low (E : Env) (on : List Int) (q : Int) : Prop := ∀ p ∈ on, ∀ f v, pv E.rules E.inp f p = some v → ∃ g, g < f ∧ (pv E.rules E.inp g q).isSome = true
def LowR (E : Env) (on : List Int) (r : QRule) : Prop := ∀ p ∈ on, ∀ f v, pv E.rules E.inp f p = some v → ∃ g, g < f ∧ (pvRule (pv E.rules E.inp g) r).isSome = true
def LowAll (E : Env) (on : List Int) (stop : Bool) (l : List Int) : Prop := ∀ p ∈ on, ∀ f v, pv E.rules E.inp f p = some v → ∃ g, g < f ∧ (pvAll (pv E.rules E.inp g) stop l).isSome = true
theorem Low.rule {E : Env} {on : List Int} {q : Int} (h : Low E on q) (hk : (E.rule q).kind ≠ 1) : LowR E (q :: on) (E.rule q) := fun p hp f v hv => by
  rcases List.mem_cons.1 hp with rfl | hp
  · exact pv_down hk hv
  · obtain ⟨g, hg, hs⟩ := h p hp f v hv
    obtain ⟨x, hx⟩ := Option.isSome_iff_exists.1 hs
    obtain ⟨g', hg', hs'⟩ := pv_down hk hx
    exact ⟨g', by omega, hs'⟩
def Bad (e : Int) (P : Prop) : Prop := e = 13 ∨ (e = 8 ∧ P)
def AskH (E : Env) (hist : Hist) (on : List Int) (ask : AskFn) : Prop :=
  ∀ s q, PInv E on s → HInv E hist s → InQ E q → Low E on q → HInv E hist (ask s q).1 ∧ Stay E s (ask s q).1 ∧
    (∀ v ch, (ask s q).2 = .ok (v, ch) → Val E.rules E.inp q v ∧ Cur E (ask s q).1 q v ch) ∧ ∀ e, (ask s q).2 = .error e → Bad e (∀ f, pv E.rules E.inp f q = none)
theorem none_of {α : Type} {o : Option α} (h : ¬ o.isSome = true) : o = none := by cases o with | none => rfl | some x => exact absurd rfl h
section
variable {E : Env} {hist : Hist} {on : List Int} {ask : AskFn}
theorem askAll_h (hg : Good E on ask) (ha : AskH E hist on ask) (stop : Bool) : ∀ (l : List Int) (s : PS), PInv E on s → HInv E hist s → (∀ q ∈ l, InQ E q) → LowAll E on stop l →
    HInv E hist (askAll ask stop s l).1 ∧ Stay E s (askAll ask stop s l).1 ∧
      (∀ got, (askAll ask stop s l).2 = .ok got → (∃ F, pvAll (pv E.rules E.inp F) stop l = some got) ∧ ∀ a ∈ l.take got.length, ∃ v ch, Cur E (askAll ask stop s l).1 a v ch) ∧
      ∀ e, (askAll ask stop s l).2 = .error e → Bad e (∀ f, pvAll (pv E.rules E.inp f) stop l = none)
  | [], s, _, hs, _, _ => ⟨hs, Stay.refl s, fun got h => by simp [askAll] at h; subst h; exact ⟨⟨0, rfl⟩, fun a h => by simp at h⟩, fun e h => by simp [askAll] at h⟩
  | q :: r, s, hp, hs, hq, hl => by
    have hqq := hq q List.mem_cons_self
    have hlow : Low E on q := fun p hp f v hv => by
      obtain ⟨g, hg, hs⟩ := hl p hp f v hv
      refine ⟨g, hg, ?_⟩
      unfold pvAll at hs
      cases hgq : pv E.rules E.inp g q with
      | none => rw [hgq] at hs; simp at hs
      | some x => rfl
    obtain ⟨h1, h2, h3, h4⟩ := ha s q hp hs hqq hlow
    have hst := (hg s q hp hqq).1
    unfold askAll
    rcases hr : ask s q with ⟨s1, r1⟩
    rw [hr] at h1 h2 h3 h4 hst
    cases r1 with
    | error e =>
      refine ⟨h1, h2, fun got h => (by cases h), fun e' h => ?_⟩
      injection h with h
      subst h
      rcases h4 e rfl with h | ⟨h, hn⟩
      · exact .inl h
      · exact .inr ⟨h, fun f => by unfold pvAll; rw [hn f]⟩
    | ok x =>
      obtain ⟨v, ch⟩ := x
      obtain ⟨⟨fa, hfa⟩, hcur⟩ := h3 v ch rfl
      simp only at h1 h2 hcur ⊢
      by_cases hstop : stop = true ∧ v ≠ 0
      · rw [if_pos hstop]
        refine ⟨h1, h2, fun got h => ?_, fun e h => (by cases h)⟩
        injection h with h
        subst h
        refine ⟨⟨fa, ?_⟩, fun a ha => ?_⟩
        · unfold pvAll; rw [hfa]; simp only [if_pos hstop]
        · simp at ha; subst ha; exact ⟨v, ch, hcur⟩
      · rw [if_neg hstop]
        have hlow2 : LowAll E on stop r := fun p hp f w hv => by
          obtain ⟨g, hg, hs⟩ := hl p hp f w hv
          refine ⟨g, hg, ?_⟩
          unfold pvAll at hs
          cases hgq : pv E.rules E.inp g q with
          | none => rw [hgq] at hs; simp at hs
          | some x =>
            have hx : x = v := pv_unique hgq hfa
            subst hx
            rw [hgq] at hs
            simp only [if_neg hstop, Option.isSome_map] at hs
            exact hs
        have ih := askAll_h hg ha stop r s1 hst.inv h1 (fun x hx => hq x (List.mem_cons_of_mem _ hx)) hlow2
        rcases hr2 : askAll ask stop s1 r with ⟨s2, r2⟩
        rw [hr2] at ih
        obtain ⟨i1, i2, i3, i4⟩ := ih
        cases r2 with
        | error e =>
          refine ⟨i1, h2.trans i2, fun got h => (by cases h), fun e' h => ?_⟩
          injection h with h
          subst h
          rcases i4 e rfl with h | ⟨h, hn⟩
          · exact .inl h
          · refine .inr ⟨h, fun f => ?_⟩
            unfold pvAll
            cases hgq : pv E.rules E.inp f q with
            | none => rfl
            | some x =>
              have hx : x = v := pv_unique hgq hfa
              subst hx
              simp only [if_neg hstop, hn f, Option.map_none]
        | ok vs =>
          refine ⟨i1, h2.trans i2, fun got h => ?_, fun e h => (by cases h)⟩
          injection h with h
          subst h
          obtain ⟨⟨F, hF⟩, hc⟩ := i3 vs rfl
          refine ⟨⟨max fa F, ?_⟩, fun a ha => ?_⟩
          · unfold pvAll
            rw [pv_mono (Nat.le_max_left fa F) hfa]
            simp only [if_neg hstop]
            rw [pvAll_mono (Nat.le_max_right fa F) hF]
            rfl
          · simp at ha
            rcases ha with rfl | ha
            · exact ⟨v, ch, hcur.stay hqq i2⟩
            · exact hc a ha
theorem evalR_h (hE : EnvOk E) (hg : Good E on ask) (ha : AskH E hist on ask) {r : QRule} (hr : ROk E.rules.length r) {s : PS} (hp : PInv E on s) (hs : HInv E hist s) (hl : LowR E on r) :
    HInv E hist (evalR ask s r).1 ∧ Stay E s (evalR ask s r).1 ∧
      (∀ v asked, (evalR ask s r).2 = .ok (v, asked) → (∃ F, pvRule (pv E.rules E.inp F) r = some (v, asked)) ∧ ∀ a ∈ asked, ∃ v ch, Cur E (evalR ask s r).1 a v ch) ∧
      ∀ e, (evalR ask s r).2 = .error e → Bad e (∀ f, pvRule (pv E.rules E.inp f) r = none) := by
  unfold evalR
  by_cases hk : r.kind = 3
  · rw [if_pos hk]
    have hq0 := (pick_mem (E := E) (v := 0) hr hk (by omega)).2
    have hlow : Low E on (r.asks.getD 0 0) := fun p hp f v hv => by
      obtain ⟨g, hg, hs⟩ := hl p hp f v hv
      refine ⟨g, hg, ?_⟩
      unfold pvRule at hs
      rw [if_pos hk] at hs
      cases hgq : pv E.rules E.inp g (r.asks.getD 0 0) with
      | none => rw [hgq] at hs; simp at hs
      | some x => rfl
    obtain ⟨h1, h2, h3, h4⟩ := ha s _ hp hs hq0 hlow
    have hgd := hg s _ hp hq0
    rcases hr1 : ask s (r.asks.getD 0 0) with ⟨s1, r1⟩
    rw [hr1] at h1 h2 h3 h4 hgd
    cases r1 with
    | error e =>
      refine ⟨h1, h2, fun _ _ h => (by cases h), fun e' h => ?_⟩
      injection h with h
      subst h
      rcases h4 e rfl with h | ⟨h, hn⟩
      · exact .inl h
      · exact .inr ⟨h, fun f => by unfold pvRule; rw [if_pos hk, hn f]⟩
    | ok x =>
      obtain ⟨v, ch⟩ := x
      obtain ⟨⟨fa, hfa⟩, hcur⟩ := h3 v ch rfl
      have hv := (hgd.2 v ch rfl).1
      have hqp := (pick_mem (E := E) hr hk hv).1
      have hlow2 : Low E on (pickOf r v) := fun p hp f w hw => by
        obtain ⟨g, hg, hs⟩ := hl p hp f w hw
        refine ⟨g, hg, ?_⟩
        unfold pvRule at hs
        rw [if_pos hk] at hs
        cases hgq : pv E.rules E.inp g (r.asks.getD 0 0) with
        | none => rw [hgq] at hs; simp at hs
        | some x =>
          have hx : x = v := pv_unique hgq hfa
          subst hx
          rw [hgq] at hs
          simp only [Option.isSome_map] at hs
          exact hs
      obtain ⟨g1, g2, g3, g4⟩ := ha s1 _ hgd.1.inv h1 hqp hlow2
      simp only at h1 h2 hcur ⊢
      rcases hr2 : ask s1 (pickOf r v) with ⟨s2, r2⟩
      rw [hr2] at g1 g2 g3 g4
      cases r2 with
      | error e =>
        refine ⟨g1, h2.trans g2, fun _ _ h => (by cases h), fun e' h => ?_⟩
        injection h with h
        subst h
        rcases g4 e rfl with h | ⟨h, hn⟩
        · exact .inl h
        · refine .inr ⟨h, fun f => ?_⟩
          unfold pvRule
          rw [if_pos hk]
          cases hgq : pv E.rules E.inp f (r.asks.getD 0 0) with
          | none => rfl
          | some x =>
            have hx : x = v := pv_unique hgq hfa
            subst hx
            simp only [hn f, Option.map_none]
      | ok y =>
        obtain ⟨u, d⟩ := y
        obtain ⟨⟨fb, hfb⟩, hcur2⟩ := g3 u d rfl
        refine ⟨g1, h2.trans g2, fun v' asked h => ?_, fun e h => (by cases h)⟩
        injection h with h; injection h with h5 h6; subst h5; subst h6
        refine ⟨⟨max fa fb, ?_⟩, fun a ha => ?_⟩
        · unfold pvRule
          rw [if_pos hk, pv_mono (Nat.le_max_left fa fb) hfa]
          simp only
          rw [pv_mono (Nat.le_max_right fa fb) hfb]
          rfl
        · simp only [List.mem_cons, List.not_mem_nil, or_false] at ha
          rcases ha with rfl | rfl
          · exact ⟨v, ch, hcur.stay hq0 g2⟩
          · exact ⟨u, d, hcur2⟩
  · rw [if_neg hk]
    have hlow : LowAll E on (r.kind == 4) r.asks := fun p hp f v hv => by
      obtain ⟨g, hg, hs⟩ := hl p hp f v hv
      refine ⟨g, hg, ?_⟩
      unfold pvRule at hs
      rwa [if_neg hk, Option.isSome_map] at hs
    obtain ⟨h1, h2, h3, h4⟩ := askAll_h hg ha (r.kind == 4) r.asks s hp hs (fun q hq => hr.asks q hq) hlow
    rcases hr1 : askAll ask (r.kind == 4) s r.asks with ⟨s1, r1⟩
    rw [hr1] at h1 h2 h3 h4
    cases r1 with
    | error e =>
      refine ⟨h1, h2, fun _ _ h => (by cases h), fun e' h => ?_⟩
      injection h with h
      subst h
      rcases h4 e rfl with h | ⟨h, hn⟩
      · exact .inl h
      · exact .inr ⟨h, fun f => by unfold pvRule; rw [if_neg hk, hn f]; rfl⟩
    | ok got =>
      obtain ⟨⟨F, hF⟩, hc⟩ := h3 got rfl
      refine ⟨h1, h2, fun v asked h => ?_, fun e h => (by cases h)⟩
      injection h with h; injection h with h5 h6; subst h5; subst h6
      exact ⟨⟨F, by unfold pvRule; rw [if_neg hk, hF]; rfl⟩, hc⟩
/-- Whether a kept answer stands: it does not, as something that it asked has changed; or all that it asked has the values that it had. -/
theorem staleF_h (hg : Good E on ask) (ha : AskH E hist on ask) {q : Int} {k : KeptR} (hq : InQ E q) (hqo : q ∈ on) {F : Nat} (htr : pvRule (pv E.rules (hist k.checked) F) (E.rule q) = some (k.value, k.asked)) (hl : LowR E on (E.rule q)) (hk : (E.rule q).kind ≠ 1) :
    ∀ (l pre : List Int) (s : PS), k.asked = pre ++ l → PInv E on s → HInv E hist s → s.get q = some k → (∀ a ∈ pre, ∃ v ch, Val E.rules E.inp a v ∧ pv E.rules (hist k.checked) F a = some v ∧ Cur E s a v ch) →
      HInv E hist (staleF ask k.checked s l).1 ∧ Stay E s (staleF ask k.checked s l).1 ∧
      ((staleF ask k.checked s l).2 = .ok false → ∀ a ∈ k.asked, ∃ v ch, Val E.rules E.inp a v ∧ pv E.rules (hist k.checked) F a = some v ∧ Cur E (staleF ask k.checked s l).1 a v ch) ∧
      ((staleF ask k.checked s l).2 = .ok true → ∃ a ∈ k.asked, ∃ v ch, Cur E (staleF ask k.checked s l).1 a v ch ∧ k.checked < ch) ∧
      ∀ e, (staleF ask k.checked s l).2 = .error e → Bad e (∀ f, pv E.rules E.inp f q = none)
  | [], pre, s, hpre, _, hs, _, hagree => ⟨hs, Stay.refl s, fun _ a ham => hagree a (by rw [hpre, List.append_nil] at ham; exact ham), fun h => (by simp [staleF] at h), fun e h => (by simp [staleF] at h)⟩
  | a :: r, pre, s, hpre, hp, hs, hget, hagree => by
    have ham : a ∈ k.asked := by rw [hpre]; simp
    have haq : InQ E a := hs.asked q k hq hget a ham
    have hnext : ∀ g, (pvRule (pv E.rules E.inp g) (E.rule q)).isSome = true → (pv E.rules E.inp g a).isSome = true := fun g hgs => by
      have hn : pre.length < k.asked.length := by rw [hpre]; simp
      have hget0 : ∀ i, i < pre.length → k.asked.getD i 0 = pre.getD i 0 := fun i hi => by rw [hpre, List.getD_eq_getElem?_getD, List.getElem?_append_left hi, List.getD_eq_getElem?_getD]
      have := pvRule_next htr hgs pre.length hn (fun i hi u hu => by
        rw [hget0 i hi] at hu ⊢
        have hm : pre.getD i 0 ∈ pre := by rw [List.getD_eq_getElem?_getD, List.getElem?_eq_getElem hi]; exact List.getElem_mem hi
        obtain ⟨v, ch, ⟨f, hf⟩, h2, _⟩ := hagree _ hm
        rw [pv_unique hu hf]; exact h2)
      rwa [show k.asked.getD pre.length 0 = a by rw [hpre, List.getD_eq_getElem?_getD, List.getElem?_append_right (Nat.le_refl _)]; simp] at this
    have hlow : Low E on a := fun p hpo f v hv => by
      obtain ⟨g, hg', hs'⟩ := hl p hpo f v hv
      exact ⟨g, hg', hnext g hs'⟩
    obtain ⟨h1, h2, h3, h4⟩ := ha s a hp hs haq hlow
    have hst := (hg s a hp haq).1
    unfold staleF
    rcases hr : ask s a with ⟨s1, r1⟩
    rw [hr] at h1 h2 h3 h4 hst
    cases r1 with
    | error e =>
      refine ⟨h1, h2, fun h => (by cases h), fun h => (by cases h), fun e' h => ?_⟩
      injection h with h
      subst h
      rcases h4 e rfl with h | ⟨h, hn⟩
      · exact .inl h
      · refine .inr ⟨h, fun f => ?_⟩
        refine none_of (fun hsome => ?_)
        obtain ⟨x, hx⟩ := Option.isSome_iff_exists.1 hsome
        obtain ⟨g, _, hgs⟩ := pv_down hk hx
        have := hnext g hgs
        rw [hn g] at this
        cases this
    | ok x =>
      obtain ⟨v, ch⟩ := x
      obtain ⟨hval, hcur⟩ := h3 v ch rfl
      have hgetq : s1.get q = some k := (hst.fix q hqo).trans hget
      simp only at h1 h2 hcur ⊢
      by_cases hc : k.checked < ch
      · rw [if_pos hc]
        exact ⟨h1, h2, fun h => (by simp at h), fun _ => ⟨a, ham, v, ch, hcur, hc⟩, fun e h => (by cases h)⟩
      · rw [if_neg hc]
        obtain ⟨f', hf'⟩ := h1.chg q k hq hgetq a ham v ch hcur.has (by omega)
        obtain ⟨w, hw⟩ := pvRule_some htr a ham
        have hwv : w = v := pv_unique hw hf'
        subst hwv
        have ih := staleF_h hg ha hq hqo htr hl hk r (pre ++ [a]) s1 (by rw [hpre]; simp) hst.inv h1 hgetq (fun b hb => by
          rcases List.mem_append.1 hb with hb | hb
          · obtain ⟨v', ch', e1, e2, e3⟩ := hagree b hb
            exact ⟨v', ch', e1, e2, e3.stay (hs.asked q k hq hget b (by rw [hpre]; simp [hb])) h2⟩
          · rw [List.mem_singleton.1 hb]; exact ⟨w, ch, hval, hw, hcur⟩)
        obtain ⟨i1, i2, i3, i4, i5⟩ := ih
        exact ⟨i1, h2.trans i2, i3, i4, i5⟩
end
theorem pvinp {E : Env} {a : Int} (hk : (E.rule a).kind = 1) : Val E.rules E.inp a (E.inp.getD a.toNat 0) := ⟨1, pv_input hk 0⟩
/-- A question gets its kept answer, checked now. -/
theorem HInv.put {E : Env} {hist : Hist} {on : List Int} {s : PS} {q : Int} {v ch : Int} {asked : List Int} (h : HInv E hist s) (hp : PInv E (q :: on) s) (hk : (E.rule q).kind ≠ 1) {F : Nat} (hv : pvRule (pv E.rules E.inp F) (E.rule q) = some (v, asked)) (hin : ∀ a ∈ asked, InQ E a)
    (hcur : ∀ a ∈ asked, ∃ v ch, Cur E s a v ch) (hch : ch = E.rev ∨ ∃ k0, s.get q = some k0 ∧ k0.value = v ∧ k0.changed = ch) : HInv E hist (s.set q ⟨v, asked, E.rev, ch⟩) := by
  have hq := hp.onq q List.mem_cons_self
  have hlt : q.toNat < s.ans.length := by rw [hp.alen]; have := hq.1; have := hq.2; omega
  have hself : (s.set q ⟨v, asked, E.rev, ch⟩).get q = some ⟨v, asked, E.rev, ch⟩ := get_set_self hlt
  have hother : ∀ p, InQ E p → p ≠ q → (s.set q ⟨v, asked, E.rev, ch⟩).get p = s.get p := fun p hp hne => get_set_other hq.1 hp.1 hne
  have hvq : Val E.rules E.inp q v := ⟨F + 1, by rw [pv_rule (q := q) hk]; show Option.map _ (pvRule _ (E.rule q)) = _; rw [hv]; rfl⟩
  refine ⟨h.now, fun p k hpq hg => ?_, fun p k hpq hg => ?_, fun p kp hpq hg a ha va cha hhas hle => ?_, fun p k hpq hg => ?_, fun p k hpq hg => ?_⟩
  · by_cases e : p = q
    · subst e; rw [hself] at hg; injection hg with hg; subst hg; exact Int.le_refl _
    · rw [hother p hpq e] at hg; exact h.le p k hpq hg
  · by_cases e : p = q
    · subst e; rw [hself] at hg; injection hg with hg; subst hg
      exact ⟨F, by rw [h.now]; exact hv⟩
    · rw [hother p hpq e] at hg; exact h.tr p k hpq hg
  · by_cases e : p = q
    · subst e
      rw [hself] at hg; injection hg with hg; subst hg
      have haq := hin a ha
      show Val E.rules (hist E.rev) a va
      rw [h.now]
      rcases hhas with ⟨hi, rfl, _⟩ | ⟨hi, ka, hka, rfl, _⟩
      · exact pvinp hi
      · by_cases e2 : a = p
        · subst e2; rw [hself] at hka; injection hka with hka; subst hka; exact hvq
        · rw [hother a haq e2] at hka
          obtain ⟨v1, ch1, hc⟩ := hcur a ha
          rcases hc with ⟨hi', _⟩ | ⟨_, ka', hka', hck, _, _⟩
          · exact absurd hi' hi
          · rw [hka] at hka'; injection hka' with hka'; subst hka'
            obtain ⟨f, hf⟩ := h.tr a ka haq hka
            rw [hck, h.now] at hf
            exact ⟨f + 1, by rw [pv_rule (q := a) hi]; show Option.map _ (pvRule _ (E.rule a)) = _; rw [hf]; rfl⟩
    · rw [hother p hpq e] at hg
      have haq := h.asked p kp hpq hg a ha
      by_cases e2 : a = q
      · subst e2
        rcases hhas with ⟨hi, _⟩ | ⟨hi, ka, hka, rfl, rfl⟩
        · exact absurd hi hk
        · rw [hself] at hka; injection hka with hka; subst hka
          rcases hch with rfl | ⟨k0, h0, h1, h2⟩
          · have h3 := h.le p kp hpq hg
            have h4 : kp.checked = E.rev := by have : E.rev ≤ kp.checked := hle; omega
            rw [h4, h.now]; exact hvq
          · exact h.chg p kp hpq hg a ha v ch (.inr ⟨hi, k0, h0, h1, h2⟩) hle
      · refine h.chg p kp hpq hg a ha va cha ?_ hle
        rcases hhas with hi | ⟨hi, ka, hka, h1, h2⟩
        · exact .inl hi
        · exact .inr ⟨hi, ka, by rw [hother a haq e2] at hka; exact hka, h1, h2⟩
  · by_cases e : p = q
    · subst e; exact hk
    · rw [hother p hpq e] at hg; exact h.nin p k hpq hg
  · by_cases e : p = q
    · subst e; rw [hself] at hg; injection hg with hg; subst hg; exact hin
    · rw [hother p hpq e] at hg; exact h.asked p k hpq hg
theorem HInv.done {E : Env} {hist : Hist} {s : PS} (h : HInv E hist s) (d : List Int) : HInv E hist { s with done := d } := ⟨h.now, h.le, h.tr, h.chg, h.nin, h.asked⟩
theorem Stay.put {E : Env} {on : List Int} {s s1 : PS} {q : Int} {k : KeptR} (h : Stay E s s1) (hp : PInv E (q :: on) s) (h1 : q.toNat < s1.ans.length) (d : List Int) : Stay E s (({ s1 with done := d } : PS).set q k) := fun p kp hpq hg hc => by
  have hq := hp.onq q List.mem_cons_self
  have e : p ≠ q := fun e => hp.onk q List.mem_cons_self kp (e ▸ hg) hc
  rw [get_set_other hq.1 hpq.1 e]
  exact h p kp hpq hg hc
theorem workF_h {E : Env} (hE : EnvOk E) {hist : Hist} {on : List Int} {ask : AskFn} {q : Int} (hg : Good E (q :: on) ask) (ha : AskH E hist (q :: on) ask) (hq : InQ E q) (hk : (E.rule q).kind ≠ 1) {s0 s : PS} {was : Option KeptR} (hw : s.get q = was) (hp0 : PInv E (q :: on) s0) (hp : PInv E (q :: on) s) (hs : HInv E hist s) (hst : Stay E s0 s) (hl : LowR E (q :: on) (E.rule q)) :
    HInv E hist (workF E ask s q was).1 ∧ Stay E s0 (workF E ask s q was).1 ∧
      (∀ v ch, (workF E ask s q was).2 = .ok (v, ch) → Val E.rules E.inp q v ∧ Cur E (workF E ask s q was).1 q v ch) ∧ ∀ e, (workF E ask s q was).2 = .error e → Bad e (∀ f, pv E.rules E.inp f q = none) := by
  have hr := hE.rok _ (rule_mem hq)
  obtain ⟨h1, h2, h3, h4⟩ := evalR_h hE hg ha hr hp hs hl
  have hgd := evalR_good hE hg hr hp
  unfold workF
  rcases he : evalR ask s (E.rule q) with ⟨s1, r1⟩
  rw [he] at h1 h2 h3 h4 hgd
  cases r1 with
  | error e =>
    refine ⟨h1, hst.trans h2, fun _ _ h => (by cases h), fun e' h => ?_⟩
    injection h with h
    subst h
    rcases h4 e rfl with h | ⟨h, hn⟩
    · exact .inl h
    · refine .inr ⟨h, fun f => ?_⟩
      cases f with
      | zero => rfl
      | succ f => rw [pv_rule (q := q) hk]; show Option.map _ (pvRule _ (E.rule q)) = _; rw [hn f]; rfl
  | ok x =>
    obtain ⟨v, asked⟩ := x
    obtain ⟨⟨F, hF⟩, hc⟩ := h3 v asked rfl
    obtain ⟨_, hin, _⟩ := hgd.2 v asked rfl
    simp only at h1 h2 hc ⊢
    have hi := hgd.1.inv
    have hlt : q.toNat < s1.ans.length := by rw [hi.alen]; have := hq.1; have := hq.2; omega
    by_cases hm : E.most ≤ s1.done.length
    · rw [if_pos hm]
      exact ⟨h1, hst.trans h2, fun _ _ h => (by cases h), fun e h => .inl (by injection h with h; exact h.symm)⟩
    · rw [if_neg hm]
      have hget : s1.get q = was := (hgd.1.fix q List.mem_cons_self).trans hw
      refine ⟨?_, (hst.trans h2).put hp0 hlt _, fun v' ch' h => ?_, fun e h => (by cases h)⟩
      · refine (h1.put (on := on) hi hk hF hin hc ?_).done _
        unfold chOf
        cases was with
        | none => exact .inl rfl
        | some k =>
          simp only
          by_cases hv : k.value = v
          · rw [if_pos hv]; exact .inr ⟨k, hget, hv, rfl⟩
          · rw [if_neg hv]; exact .inl rfl
      · injection h with h; injection h with h5 h6; subst h5; subst h6
        refine ⟨⟨F + 1, by rw [pv_rule (q := q) hk]; show Option.map _ (pvRule _ (E.rule q)) = _; rw [hF]; rfl⟩, .inr ⟨hk, _, get_set_self (s := ({ s1 with done := s1.done ++ [q] } : PS)) hlt, rfl, rfl, rfl⟩⟩
/-- ASKING IS RIGHT. -/
theorem askF_h {E : Env} (hE : EnvOk E) {hist : Hist} : ∀ (f : Nat) (on : List Int), E.rules.length + 1 ≤ f + on.length → AskH E hist on (askF E f on)
  | 0, on, hf => fun s q hp _ _ _ => by have := hp.onlen; omega
  | f + 1, on, hf => fun s q hp hs hq hlow => by
    unfold askF
    by_cases hk : (E.rule q).kind = 1
    · rw [if_pos hk]
      refine ⟨hs, Stay.refl s, fun v ch h => ?_, fun e h => (by cases h)⟩
      injection h with h; injection h with h1 h2; subst h1; subst h2
      exact ⟨pvinp hk, .inl ⟨hk, rfl, rfl⟩⟩
    rw [if_neg hk]
    by_cases hon : q ∈ on
    · rw [if_pos hon]
      refine ⟨hs, Stay.refl s, fun v ch h => (by cases h), fun e h => .inr ⟨by injection h with h; exact h.symm, fun f => ?_⟩⟩
      induction f using Nat.strongRecOn with
      | ind f ih =>
        refine none_of (fun hsome => ?_)
        obtain ⟨x, hx⟩ := Option.isSome_iff_exists.1 hsome
        obtain ⟨g, hg, hgs⟩ := hlow q hon f x hx
        rw [ih g hg] at hgs
        cases hgs
    rw [if_neg hon]
    have hG := askF_good hE f (q :: on)
    have hA := askF_h hE (hist := hist) f (q :: on) (by simp; omega)
    have hl := hlow.rule hk
    cases hg : s.get q with
    | none =>
      have hp' := hp.open_ hq hon (fun k h => by rw [hg] at h; cases h)
      exact workF_h hE hG hA hq hk hg hp' hp' hs (Stay.refl s) hl
    | some k =>
      simp only
      by_cases hc : k.checked = E.rev
      · rw [if_pos hc]
        refine ⟨hs, Stay.refl s, fun v ch h => ?_, fun e h => (by cases h)⟩
        injection h with h; injection h with h1 h2; subst h1; subst h2
        obtain ⟨F, hF⟩ := hs.tr q k hq hg
        rw [hc, hs.now] at hF
        exact ⟨⟨F + 1, by rw [pv_rule (q := q) hk]; show Option.map _ (pvRule _ (E.rule q)) = _; rw [hF]; rfl⟩, .inr ⟨hk, k, hg, hc, rfl, rfl⟩⟩
      · rw [if_neg hc]
        have hp' := hp.open_ hq hon (fun k' h => by rw [hg] at h; injection h with h; exact h ▸ hc)
        obtain ⟨F, hF⟩ := hs.tr q k hq hg
        obtain ⟨h1, h2, h3, _, h5⟩ := staleF_h hG hA hq List.mem_cons_self hF hl hk k.asked [] s rfl hp' hs hg (fun a h => by cases h)
        have hsg := staleF_good hG k.checked k.asked s hp' (hs.asked q k hq hg)
        rcases he : staleF (askF E f (q :: on)) k.checked s k.asked with ⟨s1, r1⟩
        rw [he] at h1 h2 h3 h5 hsg
        have hgq : s1.get q = some k := (hsg.fix q List.mem_cons_self).trans hg
        rcases r1 with e | b
        · refine ⟨h1, h2, fun v ch h => (by cases h), fun e' h => ?_⟩
          injection h with h
          subst h
          exact h5 e rfl
        · cases b with
          | true => exact workF_h hE hG hA hq hk hgq hp' hsg.inv h1 h2 hl
          | false =>
            have hall := h3 rfl
            simp only at hall
            have hlt : q.toNat < s1.ans.length := by rw [hsg.inv.alen]; have := hq.1; have := hq.2; omega
            have hbig : ∃ F2, ∀ a ∈ k.asked, ∀ u, pv E.rules (hist k.checked) F a = some u → pv E.rules E.inp F2 a = some u := by
              have key : ∀ l : List Int, (∀ a ∈ l, a ∈ k.asked) → ∃ F2, ∀ a ∈ l, ∀ u, pv E.rules (hist k.checked) F a = some u → pv E.rules E.inp F2 a = some u := by
                intro l
                induction l with
                | nil => exact fun _ => ⟨0, fun a h => (by cases h)⟩
                | cons a r ih =>
                  intro hm
                  obtain ⟨F2, hF2⟩ := ih (fun b hb => hm b (List.mem_cons_of_mem _ hb))
                  obtain ⟨v, ch, ⟨f3, hf3⟩, hv2, _⟩ := hall a (hm a List.mem_cons_self)
                  refine ⟨max f3 F2, fun b hb u hu => ?_⟩
                  rcases List.mem_cons.1 hb with rfl | hb
                  · rw [hv2] at hu; injection hu with hu; subst hu
                    exact pv_mono (Nat.le_max_left _ _) hf3
                  · exact pv_mono (Nat.le_max_right _ _) (hF2 b hb u hu)
              exact key k.asked (fun _ h => h)
            obtain ⟨F2, hF2⟩ := hbig
            have hnow := pvRule_agree hF hF2
            refine ⟨h1.put (on := on) hsg.inv hk hnow (hs.asked q k hq hg) (fun a ha => ?_) (.inr ⟨k, hgq, rfl, rfl⟩), ?_, fun v ch h => ?_, fun e h => (by cases h)⟩
            · obtain ⟨v, ch, _, _, h⟩ := hall a ha; exact ⟨v, ch, h⟩
            · exact h2.put hp' hlt s1.done
            · injection h with h; injection h with h6 h7; subst h6; subst h7
              exact ⟨⟨F2 + 1, by rw [pv_rule (q := q) hk]; show Option.map _ (pvRule _ (E.rule q)) = _; rw [hnow]; rfl⟩, .inr ⟨hk, _, get_set_self hlt, rfl, rfl, rfl⟩⟩
end Go.Proofs.QM

/-
  Worlds, blocks and slices: small lemmas that every walk of this seat uses (what stays as it was; new blocks; stores; slices that read as lists). No condition.
-/
namespace Go.Proofs.KL
open Go.RowKit

/-! ### What stays -/
/-- All that was there is as it was, but for the blocks of which M speaks. -/
structure Keeps (M : Nat → Prop) (w w' : World) : Prop where
  os : w'.os = w.os
  tape : w'.tape = w.tape
  output : w'.output = w.output
  size : w.heap.size ≤ w'.heap.size
  block : ∀ k, k < w.heap.size → ¬ M k → w'.heap[k]? = w.heap[k]?
def Nob : Nat → Prop := fun _ => False
theorem Keeps.refl (M : Nat → Prop) (w : World) : Keeps M w w := ⟨rfl, rfl, rfl, Nat.le_refl _, fun _ _ _ => rfl⟩
theorem Keeps.trans {M M' : Nat → Prop} {a b c : World} (h : Keeps M a b) (k : Keeps M' b c) (hm : ∀ i, i < a.heap.size → M' i → M i) : Keeps M a c :=
  ⟨k.os.trans h.os, k.tape.trans h.tape, k.output.trans h.output, Nat.le_trans h.size k.size, fun i hi hn =>
    (k.block i (Nat.lt_of_lt_of_le hi h.size) (fun hk => hn (hm i hi hk))).trans (h.block i hi hn)⟩
theorem Keeps.mono {M M' : Nat → Prop} {a b : World} (h : Keeps M a b) (hm : ∀ i, i < a.heap.size → M i → M' i) : Keeps M' a b :=
  ⟨h.os, h.tape, h.output, h.size, fun i hi hn => h.block i hi (fun hk => hn (hm i hi hk))⟩
theorem Keeps.of_below {w w' : World} (h : Below w.heap.size w w') (M : Nat → Prop) : Keeps M w w' := ⟨h.os, h.tape, h.output, h.size, fun i hi _ => h.block i hi⟩
theorem Keeps.below {w w' : World} (h : Keeps Nob w w') : Below w.heap.size w w' := ⟨h.os, h.tape, h.output, h.size, fun i hi => h.block i hi id⟩
theorem Keeps.alloc {M : Nat → Prop} {a w : World} (h : Keeps M a w) (o : Obj) : Keeps M a (w.alloc o) :=
  h.trans (M' := M) ⟨rfl, rfl, rfl, by simp, fun k hk _ => Below.heap_alloc _ _ _ hk⟩ (fun _ _ h => h)
theorem Keeps.drew {M : Nat → Prop} {a w : World} (h : Keeps M a w) : Keeps M a w.drew := ⟨h.os, h.tape, h.output, h.size, h.block⟩
theorem Keeps.drewN {M : Nat → Prop} {a w : World} (h : Keeps M a w) (n : Nat) : Keeps M a (w.drewN n) := ⟨h.os, h.tape, h.output, h.size, h.block⟩
theorem Keeps.setCell {M : Nat → Prop} {a w : World} (h : Keeps M a w) {p : Addr} (hp : M p.block ∨ a.heap.size ≤ p.block) (u : Value) : Keeps M a (w.setCell p u) :=
  h.trans (M' := fun k => k = p.block) ⟨rfl, rfl, rfl, by simp [World.setCell], fun k _ hn => Below.heap_setCell _ _ _ _ hn⟩
    (fun i hi e => hp.elim (fun h => e ▸ h) (fun h => absurd hi (by omega)))
theorem Keeps.grown {M : Nat → Prop} {a w w' : World} {row : Option Nat} (h : Keeps M a w) (hg : w.grownBy w' row) (hr : ∀ k, row = some k → M k ∨ a.heap.size ≤ k) : Keeps M a w' :=
  h.trans (M' := fun k => some k = row) ⟨hg.os, hg.tape, hg.output, hg.size, fun k hk hn => hg.block k hk hn⟩
    (fun i hi e => (hr i e.symm).elim id (fun h => absurd hi (by omega)))
theorem Keeps.setObj {M : Nat → Prop} {a w : World} (h : Keeps M a w) {r : Nat} (hr : M r ∨ a.heap.size ≤ r) (o : Obj) : Keeps M a { w with heap := w.heap.setIfInBounds r o } :=
  h.trans (M' := fun k => k = r) ⟨rfl, rfl, rfl, by simp, fun k _ hn => by rw [Array.getElem?_setIfInBounds, if_neg (fun e => hn e.symm)]⟩
    (fun i hi e => hr.elim (fun h => e ▸ h) (fun h => absurd hi (by omega)))
theorem blk_lt {w : World} {b : Nat} {o : Obj} (h : w.heap[b]? = some o) : b < w.heap.size := by
  rcases Nat.lt_or_ge b w.heap.size with h' | h'
  · exact h'
  · rw [Array.getElem?_eq_none h'] at h; cases h
theorem Keeps.blk {M : Nat → Prop} {w w' : World} (h : Keeps M w w') {b : Nat} {o : Obj} (hb : w.heap[b]? = some o) (hn : ¬ M b) : w'.heap[b]? = some o := (h.block b (blk_lt hb) hn).trans hb
theorem Keeps.cell {M : Nat → Prop} {w w' : World} (h : Keeps M w w') {p : Addr} {v : Value} (hc : w.cell? p = some v) (hn : ¬ M p.block) : w'.cell? p = some v :=
  (World.cell?_of_block (w := w) (h.block p.block (World.block_lt_of_cell? w p hc) hn)).trans hc
theorem Keeps.frozen {M : Nat → Prop} {w w' : World} (h : Keeps M w w') {p : Addr} (hp : p.block < w.heap.size) (hn : ¬ M p.block) : w'.frozen? p = w.frozen? p :=
  World.frozen?_of_block (w := w) (h.block p.block hp hn)

/-! ### Blocks of cells -/
theorem blk_cell {w : World} {g : Nat} {cs : Array Value} {t : TypeId} {f : Nat × Nat} (h : w.heap[g]? = some (.cells cs t f)) (i : Nat) : w.cell? ⟨g, i, none⟩ = cs[i]? := by
  simp [World.cell?, h]
theorem blk_frozen {w : World} {g : Nat} {cs : Array Value} {t : TypeId} (h : w.heap[g]? = some (.cells cs t (0, 0))) (i : Nat) : w.frozen? ⟨g, i, none⟩ = false := by
  simp [World.frozen?, h]
theorem blk_new (W : World) (o : Obj) : (W.alloc o).heap[W.heap.size]? = some o := by
  show (W.heap.push o)[W.heap.size]? = some o
  simp

section
variable {P : Program} {ops : Array Oper} {rest : List Oper} {o : Oper} {a : Act} {Q : Exit → Act → World → Prop}
/-- An arm's gate: this operation writes slot N. -/
theorem at_dst {N : Tmp} {W : World} (_h : o.dst = some N) (h : wpList P ops Q (o :: rest) a W) : wpList P ops Q (o :: rest) a W := h
theorem at_store {t : TypeId} {p : Tmp} {v : Operand} {W : World} (_h : o.op = .store t (.tmp p) v) (h : wpList P ops Q (o :: rest) a W) : wpList P ops Q (o :: rest) a W := h
theorem ev_run {W w1 : World} {v : Value} (hgd : o.guard = none) (hrun : (execOp a.eval o).run P W = .ok (.value v) w1) (h : wpList P ops Q rest (a.put o.dst v) w1) : wpList P ops Q (o :: rest) a W :=
  wpList_plain hgd fun K hK => by unfold Oper.wp; rw [hrun]; exact hK _ _ h
theorem ev_skip {W w1 : World} (hgd : o.guard = none) (hN : o.dst = none) (hrun : (execOp a.eval o).run P W = .ok .skip w1) (h : wpList P ops Q rest a w1) : wpList P ops Q (o :: rest) a W :=
  wpList_plain hgd fun K hK => by
    unfold Oper.wp; rw [hrun]
    show K (a.put o.dst undef) w1
    rw [hN]; exact hK _ _ h
/-- A new block. -/
theorem ev_new {W : World} (hgd : o.guard = none) {cs : Array Value} {t : TypeId}
    (hrun : (execOp a.eval o).run P W = .ok (.value (.pointer (some ⟨W.heap.size, 0, none⟩))) (W.alloc (.cells cs t (0, 0))))
    (h : ∀ g w1, W.heap.size ≤ g → g < w1.heap.size → w1.heap[g]? = some (.cells cs t (0, 0)) → Keeps Nob W w1 → wpList P ops Q rest (a.put o.dst (.pointer (some ⟨g, 0, none⟩))) w1) : wpList P ops Q (o :: rest) a W :=
  ev_run hgd hrun (h _ _ (Nat.le_refl _) (by simp) (blk_new W _) ((Keeps.refl _ _).alloc _))
/-- A store of a whole value into a block that is known. -/
theorem ev_store {W : World} (hgd : o.guard = none) (hN : o.dst = none) {t : TypeId} {p v : Operand} (ho : o.op = .store t p v) {g off : Nat} {cs cs' : Array Value} {T : TypeId} {x : Value} {vs : List Value} {i : TypeInfo}
    (hp : a.eval p = .pointer (some ⟨g, off, none⟩)) (hx : a.eval v = x) (hv : x.cells.toList = vs) (hi : P.info? t = some i) (hsz : i.size = vs.length) (h1 : vs.all (·.oneCell') = true)
    (hb : W.heap[g]? = some (.cells cs T (0, 0))) (hfit : off + vs.length ≤ cs.size) (hcs : (cs.toList.take off ++ vs ++ cs.toList.drop (off + vs.length)).toArray = cs')
    (h : ∀ w1, w1.heap[g]? = some (.cells cs' T (0, 0)) → Keeps (· = g) W w1 → wpList P ops Q rest a w1) : wpList P ops Q (o :: rest) a W := by
  have hst := run_storeCells_at (P := P) g off T vs 0 cs W hb (by simpa using hfit) (fun u hu => List.all_eq_true.1 h1 u hu)
  have hl : x.cells.size = vs.length := by rw [← hv]; simp
  have hrun : (execOp a.eval o).run P W = .ok .skip (W.setRow g cs') := by
    simp only [execOp, ho, hp, hx, Instr.storeAt, Instr.sureAddr, storeVar, sizeOf, typeInfo]
    rw [← hcs]
    simp [hi, hsz, hl, hv, hst]
  refine ev_skip hgd hN hrun (h _ ?_ ?_)
  · exact setRow_heap W g _ _ T _ hb
  · exact ⟨rfl, rfl, rfl, by simp [World.setRow], fun k _ hn => by simp only [World.setRow, Array.getElem?_modify]; rw [if_neg (fun e => hn e.symm)]⟩
/-- A new variable that holds its type's zero. -/
theorem ev_alloc {W : World} (hgd : o.guard = none) {t : TypeId} (ho : o.op = .alloc t) {z : Value} {cs : Array Value} (hz : (P.info? t).map (·.zero) = some (some z)) (hcs : z.cells = cs)
    (h : ∀ g w1, W.heap.size ≤ g → g < w1.heap.size → w1.heap[g]? = some (.cells cs t (0, 0)) → Keeps Nob W w1 → wpList P ops Q rest (a.put o.dst (.pointer (some ⟨g, 0, none⟩))) w1) : wpList P ops Q (o :: rest) a W := by
  obtain ⟨i, hi, hzz⟩ := Option.map_eq_some_iff.1 hz
  refine ev_new hgd ?_ h
  simp [execOp, ho, Instr.alloc, zeroValue, typeInfo, hi, hzz, newVar, newRow, newObj, hcs]
  rfl
/-- A new variable that holds a value. -/
theorem ev_box {W : World} (hgd : o.guard = none) {t : TypeId} {x : Operand} (ho : o.op = .box t x) {cs : Array Value} (hcs : (a.eval x).cells = cs)
    (h : ∀ g w1, W.heap.size ≤ g → g < w1.heap.size → w1.heap[g]? = some (.cells cs t (0, 0)) → Keeps Nob W w1 → wpList P ops Q rest (a.put o.dst (.pointer (some ⟨g, 0, none⟩))) w1) : wpList P ops Q (o :: rest) a W := by
  refine ev_new hgd ?_ h
  simp [execOp, ho, Instr.box, newVar, newRow, newObj, hcs]
  rfl
end
/-- A block of the call's own is written. -/
theorem Keeps.own {M : Nat → Prop} {a b c : World} {g : Nat} (h : Keeps M a b) (k : Keeps (· = g) b c) (hg : a.heap.size ≤ g) : Keeps M a c :=
  h.trans k (fun i hi e => absurd hi (by omega))
theorem Keeps.into {M : Nat → Prop} {a b c : World} {g : Nat} (h : Keeps M a b) (k : Keeps (· = g) b c) (hg : M g) : Keeps M a c :=
  h.trans k (fun _ _ e => e ▸ hg)
theorem Keeps.then {M : Nat → Prop} {a b c : World} (h : Keeps M a b) (k : Keeps Nob b c) : Keeps M a c := h.trans k (fun _ _ e => e.elim)
theorem Keeps.cells {M : Nat → Prop} {a b : World} (h : Keeps M a b) : ∀ k o, k < a.heap.size → ¬ M k → b.cell? ⟨k, o, none⟩ = a.cell? ⟨k, o, none⟩ :=
  fun k _ hk hn => World.cell?_of_block (w := a) (h.block k hk hn)
theorem Keeps.cells0 {a b : World} (h : Keeps Nob a b) : ∀ k o, k < a.heap.size → b.cell? ⟨k, o, none⟩ = a.cell? ⟨k, o, none⟩ := fun k o hk => h.cells k o hk id
end Go.Proofs.KL

/-
  Maps that are keyed by integers, whatever their elements: mlook-up, store, delete, as operations on a list of entries. No condition.
-/
namespace Go.Proofs.KL
open Go.RowKit

def keyInt (e : MapEntry) : Int := match e.key with | .int _ a => a | _ => 0
structure IntKeyed (es : List MapEntry) : Prop where
  keys : ∀ e ∈ es, ∃ q, e.key = .int .i64 q
  nodup : (es.map keyInt).Nodup
def mlookAt (q : Int) : List MapEntry → Nat → Option (Nat × Value)
  | [], _ => none
  | e :: r, i => if keyInt e = q then some (i, e.val) else mlookAt q r (i + 1)
def mlook (es : List MapEntry) (q : Int) : Option Value := (mlookAt q es 0).map (·.2)
theorem mlookAt_shift (q : Int) : ∀ (es : List MapEntry) (i : Nat), mlookAt q es i = (mlookAt q es 0).map fun x => (x.1 + i, x.2)
  | [], _ => rfl
  | e :: r, i => by
    unfold mlookAt
    split
    · simp
    · rw [mlookAt_shift q r (i + 1), mlookAt_shift q r (0 + 1)]
      cases mlookAt q r 0 <;> simp; omega
theorem mlook_cons (e : MapEntry) (r : List MapEntry) (q : Int) : mlook (e :: r) q = if keyInt e = q then some e.val else mlook r q := by
  unfold mlook
  rw [mlookAt]
  split
  · rfl
  · rw [mlookAt_shift]; cases mlookAt q r 0 <;> rfl
theorem mlook_nil (q : Int) : mlook [] q = none := rfl
theorem findNow_int {kk : IntKind} (q : Int) : ∀ (es : List MapEntry) (i : Nat), (∀ e ∈ es, ∃ q, e.key = .int .i64 q) → Instr.findNow (.int kk) (.int .i64 q) es i = some (mlookAt q es i)
  | [], _, _ => rfl
  | e :: r, i, h => by
    obtain ⟨k, hk⟩ := h e List.mem_cons_self
    have ih := findNow_int (kk := kk) q r (i + 1) (fun x hx => h x (List.mem_cons_of_mem _ hx))
    unfold Instr.findNow mlookAt
    have hki : keyInt e = k := by unfold keyInt; rw [hk]
    rw [hk, hki]
    by_cases hq : k = q
    · subst hq; simp [Instr.sameNow]
    · have : (q == k) = false := by simpa using fun h => hq h.symm
      simp only [Instr.sameNow, if_true, this, if_neg hq]
      exact ih
theorem mlook_isSome_mem {es : List MapEntry} {q : Int} : (mlook es q).isSome = true ↔ q ∈ es.map keyInt := by
  induction es with
  | nil => simp [mlook_nil]
  | cons e r ih =>
    rw [mlook_cons]
    by_cases h : keyInt e = q
    · simp [h]
    · simp only [if_neg h, ih, List.map_cons, List.mem_cons]
      constructor
      · exact .inr
      · rintro (h' | h')
        · exact absurd h'.symm h
        · exact h'
theorem mlook_none {es : List MapEntry} {q : Int} (h : q ∉ es.map keyInt) : mlook es q = none := by
  cases hl : mlook es q with
  | none => rfl
  | some v => exact absurd (mlook_isSome_mem.1 (by rw [hl]; rfl)) h
theorem mlook_append_one (es : List MapEntry) (e : MapEntry) (q : Int) : mlook (es ++ [e]) q = (mlook es q).or (if keyInt e = q then some e.val else none) := by
  induction es with
  | nil => rw [List.nil_append, mlook_cons, mlook_nil]; simp
  | cons x r ih =>
    rw [List.cons_append, mlook_cons, mlook_cons, ih]
    by_cases h : keyInt x = q
    · simp [h]
    · simp [h]
theorem mlookAt_none {es : List MapEntry} {q : Int} {i : Nat} (h : mlookAt q es i = none) : mlook es q = none := by
  unfold mlook; rw [mlookAt_shift] at h
  cases hl : mlookAt q es 0 with
  | none => rfl
  | some x => rw [hl] at h; cases h
/-- The place of a key that is there. -/
theorem mlookAt_some : ∀ {es : List MapEntry} {q : Int} {i j : Nat} {v : Value}, mlookAt q es i = some (j, v) → ∃ k e, j = i + k ∧ es[k]? = some e ∧ keyInt e = q ∧ e.val = v
  | e :: r, q, i, j, v, h => by
    unfold mlookAt at h
    split at h
    · rename_i hk
      injection h with h; injection h with h1 h2
      exact ⟨0, e, by omega, rfl, hk, h2⟩
    · obtain ⟨k, x, hj, hx, hk, hv⟩ := mlookAt_some h
      exact ⟨k + 1, x, by omega, by simpa using hx, hk, hv⟩
theorem mlook_set : ∀ {es : List MapEntry} {k : Nat} {e e' : MapEntry} {q : Int}, es[k]? = some e → keyInt e = q → keyInt e' = q → (es.map keyInt).Nodup → ∀ q', mlook (es.set k e') q' = if q' = q then some e'.val else mlook es q'
  | x :: r, 0, e, e', q, he, hk, hk', _, q' => by
    simp at he; subst he
    rw [List.set_cons_zero, mlook_cons, mlook_cons, hk, hk']
    by_cases h : q = q'
    · simp [h]
    · rw [if_neg h, if_neg (fun h' : q' = q => h h'.symm), if_neg h]
  | x :: r, k + 1, e, e', q, he, hk, hk', hn, q' => by
    simp at he
    have ih := mlook_set he hk hk' (List.nodup_cons.1 (by rw [List.map_cons] at hn; exact hn)).2 q'
    rw [List.set_cons_succ, mlook_cons, mlook_cons, ih]
    by_cases h : keyInt x = q'
    · have hx : keyInt x ≠ q := by
        intro hxq
        have hmem : keyInt e ∈ r.map keyInt := List.mem_map_of_mem (List.mem_of_getElem? he)
        have := (List.nodup_cons.1 (by rw [List.map_cons] at hn; exact hn)).1
        rw [hxq, ← hk] at this
        exact this (by simpa using hmem)
      rw [if_pos h, if_pos h, if_neg (by rw [← h]; exact hx)]
    · rw [if_neg h, if_neg h]
theorem map_set_keys {es : List MapEntry} {k : Nat} {e e' : MapEntry} (he : es[k]? = some e) (hk : keyInt e' = keyInt e) : (es.set k e').map keyInt = es.map keyInt := by
  rw [List.map_set, hk]
  apply List.ext_getElem?
  intro i
  rw [List.getElem?_set]
  split
  · rename_i h; subst h
    have hlt : k < es.length := (List.getElem?_eq_some_iff.1 he).1
    have := (List.getElem?_eq_some_iff.1 he).2
    simp [hlt, this]
  · rfl
theorem IntKeyed.set {es : List MapEntry} (h : IntKeyed es) {k : Nat} {e e' : MapEntry} (he : es[k]? = some e) (hk : ∃ q, e'.key = .int .i64 q) (hk' : keyInt e' = keyInt e) : IntKeyed (es.set k e') :=
  ⟨fun x hx => by
    rcases List.mem_or_eq_of_mem_set hx with hx | rfl
    · exact h.keys x hx
    · exact hk, by rw [map_set_keys he hk']; exact h.nodup⟩
theorem IntKeyed.push {es : List MapEntry} (h : IntKeyed es) {e : MapEntry} {q : Int} (hk : e.key = .int .i64 q) (hq : mlook es q = none) : IntKeyed (es ++ [e]) :=
  ⟨fun x hx => by
    rcases List.mem_append.1 hx with hx | hx
    · exact h.keys x hx
    · rw [List.mem_singleton.1 hx]; exact ⟨q, hk⟩, by
    rw [List.map_append, List.nodup_append]
    refine ⟨h.nodup, by simp, fun a ha b hb => ?_⟩
    have hb' : b = q := by simpa [keyInt, hk] using hb
    rintro rfl
    subst hb'
    have := mlook_isSome_mem.2 ha
    rw [hq] at this; cases this⟩
theorem map_erase {α β : Type} (f : α → β) : ∀ (l : List α) (k : Nat), (l.eraseIdx k).map f = (l.map f).eraseIdx k
  | [], _ => rfl
  | _ :: _, 0 => rfl
  | _ :: r, k + 1 => by simp [map_erase f r k]
theorem IntKeyed.erase {es : List MapEntry} (h : IntKeyed es) (k : Nat) : IntKeyed (es.eraseIdx k) :=
  ⟨fun x hx => h.keys x (List.mem_of_mem_eraseIdx hx), by
    have : (es.eraseIdx k).map keyInt = (es.map keyInt).eraseIdx k := map_erase keyInt es k
    rw [this]; exact h.nodup.sublist (List.eraseIdx_sublist _ _)⟩
theorem mlook_erase : ∀ {es : List MapEntry} {k : Nat} {e : MapEntry} {q : Int}, es[k]? = some e → keyInt e = q → (es.map keyInt).Nodup → ∀ q', mlook (es.eraseIdx k) q' = if q' = q then none else mlook es q'
  | x :: r, 0, e, q, he, hk, hn, q' => by
    simp at he; subst he
    rw [List.eraseIdx_cons_zero, mlook_cons, hk]
    by_cases h : q' = q
    · subst h
      rw [if_pos rfl]
      apply mlook_none
      have := (List.nodup_cons.1 (by rw [List.map_cons] at hn; exact hn)).1
      rw [hk] at this; simpa using this
    · rw [if_neg h, if_neg (fun h' => h h'.symm)]
  | x :: r, k + 1, e, q, he, hk, hn, q' => by
    simp at he
    have ih := mlook_erase he hk (List.nodup_cons.1 (by rw [List.map_cons] at hn; exact hn)).2 q'
    rw [List.eraseIdx_cons_succ, mlook_cons, mlook_cons, ih]
    by_cases h : keyInt x = q'
    · have hx : keyInt x ≠ q := by
        intro hxq
        have hmem : keyInt e ∈ r.map keyInt := List.mem_map_of_mem (List.mem_of_getElem? he)
        have := (List.nodup_cons.1 (by rw [List.map_cons] at hn; exact hn)).1
        rw [hxq, ← hk] at this
        exact this (by simpa using hmem)
      rw [if_pos h, if_pos h, if_neg (by rw [← h]; exact hx)]
    · rw [if_neg h, if_neg h]

theorem modify_set {α : Type} (f : α → α) : ∀ {l : List α} {k : Nat} {e : α}, l[k]? = some e → l.modify k f = l.set k (f e)
  | x :: r, 0, e, h => by simp at h; subst h; rfl
  | x :: r, k + 1, e, h => by simp at h; simp [modify_set f h]
section
variable {P : Program} {W : World} {t K E : TypeId} {kk : IntKind} {m : Nat} {es : Array MapEntry} {c : Nat}
theorem run_checkKey_int (hk : P.underlying K = some (.int kk)) (b : Bool) (q : Int) : (Instr.checkKey b 10000 K (.int .i64 q)).run P W = .ok () W := by
  unfold Instr.checkKey
  simp [run_underlying hk]
theorem run_getObj_map (hb : W.heap[m]? = some (.map es c)) : (getObj m).run P W = .ok (.map es c) W := by
  simp [getObj, Sem.run, hb]
theorem run_findKey_int (hk : P.underlying K = some (.int kk)) (hkey : IntKeyed es.toList) (q : Int) : (Instr.findKey K (.int .i64 q) es.toList).run P W = .ok (mlookAt q es.toList 0) W := by
  unfold Instr.findKey
  simp [run_underlying hk, findNow_int q es.toList 0 hkey.keys]
theorem run_lookup_int2 (ht : P.underlying t = some (.map K E)) (hk : P.underlying K = some (.int kk)) {i : TypeInfo} {z : Value} (hi : P.info? E = some i) (hz : i.zero = some z)
    (hb : W.heap[m]? = some (.map es c)) (hkey : IntKeyed es.toList) (q : Int) (ok : Bool) :
    (Instr.lookup t (.map (some m)) (.int .i64 q) ok).run P W = .ok (if ok then .tuple #[(mlook es.toList q).getD z, .bool (mlook es.toList q).isSome] else (mlook es.toList q).getD z) W := by
  unfold Instr.lookup
  simp only [run_underlying ht, Sem.run_bind, Result.andThen_ok]
  simp only [run_getObj_map hb, Sem.run_bind, Result.andThen_ok, Sem.run_pure, run_checkKey_int hk, run_findKey_int hk hkey]
  unfold mlook
  cases hl : mlookAt q es.toList 0 with
  | none => simp [zeroValue, typeInfo, hi, hz]
  | some x => obtain ⟨j, v⟩ := x; simp
theorem run_mapUpdate_int2 (ht : P.underlying t = some (.map K E)) (hk : P.underlying K = some (.int kk)) (hb : W.heap[m]? = some (.map es c)) (hkey : IntKeyed es.toList) (q : Int) (v : Value) :
    ∃ es' : Array MapEntry, ∃ c', (Instr.mapUpdate t (.map (some m)) (.int .i64 q) v).run P W = .ok () { W with heap := W.heap.setIfInBounds m (.map es' c') } ∧
      IntKeyed es'.toList ∧ ∀ q', mlook es'.toList q' = if q' = q then some v else mlook es.toList q' := by
  have hset : ∀ (o : Obj), (setObj m o).run P W = .ok () { W with heap := W.heap.setIfInBounds m o } := fun o => by simp [setObj, Sem.run, hb]
  cases hl : mlookAt q es.toList 0 with
  | none =>
    refine ⟨es.push { key := .int .i64 q, val := v, born := c }, c + 1, ?_, ?_, fun q' => ?_⟩
    · unfold Instr.mapUpdate
      simp only [run_underlying ht, Sem.run_bind, Result.andThen_ok]
      simp only [run_getObj_map hb, Sem.run_bind, Result.andThen_ok, run_checkKey_int hk, run_findKey_int hk hkey, hl, hset]
    · rw [Array.toList_push]; exact hkey.push rfl (mlookAt_none hl)
    · rw [Array.toList_push, mlook_append_one]
      have h0 := mlookAt_none hl
      by_cases h : q' = q
      · subst h; rw [h0]; simp [keyInt]
      · rw [if_neg h, if_neg (by simpa [keyInt] using fun h' => h h'.symm)]; simp
  | some x =>
    obtain ⟨j, u⟩ := x
    obtain ⟨k, e, hj, he, hke, hv⟩ := mlookAt_some hl
    obtain rfl : k = j := by omega
    have he' : es[k]? = some e := by simpa using he
    have hkk : e.key = .int .i64 q := by
      obtain ⟨q0, h0⟩ := hkey.keys e (List.mem_of_getElem? he)
      rw [h0]; simp [keyInt, h0] at hke; rw [hke]
    refine ⟨es.modify k fun e => { e with key := .int .i64 q, val := v }, c, ?_, ?_, fun q' => ?_⟩
    · unfold Instr.mapUpdate
      simp only [run_underlying ht, Sem.run_bind, Result.andThen_ok]
      simp only [run_getObj_map hb, Sem.run_bind, Result.andThen_ok, run_checkKey_int hk, run_findKey_int hk hkey, hl, he', Option.map_some, Option.getD_some, hkk]
      simp only [Instr.keyThatStays, Instr.sameBits]
      simp [hset]
    · have hm : (es.modify k fun e => { e with key := .int .i64 q, val := v }).toList = es.toList.set k { e with key := .int .i64 q, val := v } := by
        rw [Array.toList_modify]; exact modify_set _ he
      rw [hm]
      exact hkey.set he ⟨q, rfl⟩ (by rw [hke]; rfl)
    · have hm : (es.modify k fun e => { e with key := .int .i64 q, val := v }).toList = es.toList.set k { e with key := .int .i64 q, val := v } := by
        rw [Array.toList_modify]; exact modify_set _ he
      rw [hm]
      exact mlook_set he hke rfl hkey.nodup q'
theorem run_delete_int2 (ht : P.underlying t = some (.map K E)) (hk : P.underlying K = some (.int kk)) (hb : W.heap[m]? = some (.map es c)) (hkey : IntKeyed es.toList) (q : Int) (ty tk : TypeId) :
    ∃ es' : Array MapEntry, ∃ c', (Builtin.delete_ #[t, tk] ty #[.map (some m), .int .i64 q]).run P W = .ok (.tuple #[]) { W with heap := W.heap.setIfInBounds m (.map es' c') } ∧
      IntKeyed es'.toList ∧ ∀ q', mlook es'.toList q' = if q' = q then none else mlook es.toList q' := by
  have hset : ∀ (o : Obj), (setObj m o).run P W = .ok () { W with heap := W.heap.setIfInBounds m o } := fun o => by simp [setObj, Sem.run, hb]
  cases hl : mlookAt q es.toList 0 with
  | none =>
    refine ⟨es, c, ?_, hkey, fun q' => ?_⟩
    · unfold Builtin.delete_
      simp only [List.getElem?_toArray, List.getElem?_cons_zero, List.getElem?_cons_succ, run_underlying ht, Sem.run_bind, Result.andThen_ok]
      simp only [run_getObj_map hb, Sem.run_bind, Result.andThen_ok, run_checkKey_int hk, run_findKey_int hk hkey, hl, hset, Sem.run_pure]
    · by_cases h : q' = q
      · subst h; rw [if_pos rfl]; exact mlookAt_none hl
      · rw [if_neg h]
  | some x =>
    obtain ⟨j, u⟩ := x
    obtain ⟨k, e, hj, he, hke, hv⟩ := mlookAt_some hl
    obtain rfl : k = j := by omega
    have hlt : k < es.size := by simpa using (List.getElem?_eq_some_iff.1 he).1
    have hm : (es.eraseIdxIfInBounds k).toList = es.toList.eraseIdx k := by
      rw [Array.eraseIdxIfInBounds_eq, dif_pos hlt, Array.toList_eraseIdx]
    refine ⟨es.eraseIdxIfInBounds k, c, ?_, by rw [hm]; exact hkey.erase k, fun q' => by rw [hm]; exact mlook_erase he hke hkey.nodup q'⟩
    unfold Builtin.delete_
    simp only [List.getElem?_toArray, List.getElem?_cons_zero, List.getElem?_cons_succ, run_underlying ht, Sem.run_bind, Result.andThen_ok]
    simp only [run_getObj_map hb, Sem.run_bind, Result.andThen_ok, run_checkKey_int hk, run_findKey_int hk hkey, hl, hset, Sem.run_pure]
end
end Go.Proofs.KL

/-
  How the rules, inputs and kept results of layer 22 lie in memory; and that they stay while other blocks are written. No condition.
-/
namespace Go.Proofs.QW
open Go.RowKit Go.Proofs.KL Go.Proofs.QM

/-- A slice of ints whose array lies in a block of X. -/
def IntsX (w : World) (X : Nat → Prop) (v : Value) (xs : List Int) : Prop :=
  ∃ A c, v = .slice A xs.length c ∧ xs.length ≤ c ∧ ∀ i, i < xs.length → ∃ b o, A = some ⟨b, o, none⟩ ∧ X b ∧ w.cell? ⟨b, o + i, none⟩ = some (.int .i64 (xs.getD i 0))
/-- A slice of rules. -/
def RulesX (w : World) (X : Nat → Prop) (v : Value) (rs : List QRule) : Prop :=
  ∃ A c, v = .slice A rs.length c ∧ rs.length ≤ c ∧ ∀ i, i < rs.length → ∃ b o u, A = some ⟨b, o, none⟩ ∧ X b ∧ w.cell? ⟨b, o + i * 3, none⟩ = some (.int .i64 (rs.getD i default).kind) ∧
    w.cell? ⟨b, o + i * 3 + 1, none⟩ = some (.int .i64 (rs.getD i default).n) ∧ w.cell? ⟨b, o + i * 3 + 2, none⟩ = some u ∧ IntsX w X u (rs.getD i default).asks
/-- The engine's inputs: a row of kept results (value, what was asked, when checked, when changed). -/
def InpX (w : World) (ib n : Nat) (inp ch : List Int) : Prop :=
  ∃ cs : Array Value, w.heap[ib]? = some (.cells cs 85 (0, 0)) ∧ ∀ i, i < n → cs[i * 4]? = some (.int .i64 (inp.getD i 0)) ∧ cs[i * 4 + 1]? = some (.slice none 0 0) ∧ cs[i * 4 + 2]? = some (.int .i64 0) ∧ cs[i * 4 + 3]? = some (.int .i64 (ch.getD i 0))
def KeptX (w : World) (X : Nat → Prop) (v : Value) (k : KeptR) : Prop :=
  ∃ u, v = .agg #[.int .i64 k.value, u, .int .i64 k.checked, .int .i64 k.changed] ∧ IntsX w X u k.asked
/-- A map of kept results. -/
def AnsX (w : World) (X : Nat → Prop) (mb n : Nat) (ans : List (Option KeptR)) : Prop :=
  ∃ (es : Array MapEntry) (c : Nat), w.heap[mb]? = some (.map es c) ∧ IntKeyed es.toList ∧ (∀ q : Int, ¬ (0 ≤ q ∧ q < n) → mlook es.toList q = none) ∧
    ∀ q : Int, 0 ≤ q → q < n → match ans.getD q.toNat none with
      | some k => ∃ v, mlook es.toList q = some v ∧ KeptX w X v k
      | none => mlook es.toList q = none
/-- The map of the questions that are open. -/
def OpenX (w : World) (ob : Nat) (on : List Int) : Prop :=
  ∃ (es : Array MapEntry) (c : Nat), w.heap[ob]? = some (.map es c) ∧ IntKeyed es.toList ∧ ∀ q : Int, mlook es.toList q = if q ∈ on then some (.bool true) else none

theorem IntsX.keep {M X X' : Nat → Prop} {w w' : World} {v : Value} {xs : List Int} (h : IntsX w X v xs) (hk : Keeps M w w') (hX : ∀ b, b < w.heap.size → X b → ¬ M b) (hX' : ∀ b, b < w.heap.size → X b → X' b) : IntsX w' X' v xs := by
  obtain ⟨A, c, rfl, hc, hx⟩ := h
  refine ⟨A, c, rfl, hc, fun i hi => ?_⟩
  obtain ⟨b, o, rfl, hb, hcell⟩ := hx i hi
  have hlt := World.block_lt_of_cell? _ _ hcell
  exact ⟨b, o, rfl, hX' b hlt hb, hk.cell hcell (hX b hlt hb)⟩
theorem RulesX.keep {M X X' : Nat → Prop} {w w' : World} {v : Value} {rs : List QRule} (h : RulesX w X v rs) (hk : Keeps M w w') (hX : ∀ b, b < w.heap.size → X b → ¬ M b) (hX' : ∀ b, b < w.heap.size → X b → X' b) : RulesX w' X' v rs := by
  obtain ⟨A, c, rfl, hc, hx⟩ := h
  refine ⟨A, c, rfl, hc, fun i hi => ?_⟩
  obtain ⟨b, o, u, rfl, hb, h0, h1, h2, h3⟩ := hx i hi
  have hlt := World.block_lt_of_cell? _ _ h0
  have hn := hX b hlt hb
  exact ⟨b, o, u, rfl, hX' b hlt hb, hk.cell h0 hn, hk.cell h1 hn, hk.cell h2 hn, h3.keep hk hX hX'⟩
theorem InpX.keep {M : Nat → Prop} {w w' : World} {ib n : Nat} {inp ch : List Int} (h : InpX w ib n inp ch) (hk : Keeps M w w') (hn : ¬ M ib) : InpX w' ib n inp ch := by
  obtain ⟨cs, hb, hx⟩ := h
  exact ⟨cs, hk.blk hb hn, hx⟩
theorem KeptX.keep {M X X' : Nat → Prop} {w w' : World} {v : Value} {k : KeptR} (h : KeptX w X v k) (hk : Keeps M w w') (hX : ∀ b, b < w.heap.size → X b → ¬ M b) (hX' : ∀ b, b < w.heap.size → X b → X' b) : KeptX w' X' v k := by
  obtain ⟨u, rfl, hu⟩ := h
  exact ⟨u, rfl, hu.keep hk hX hX'⟩
theorem AnsX.keep {M X X' : Nat → Prop} {w w' : World} {mb n : Nat} {ans : List (Option KeptR)} (h : AnsX w X mb n ans) (hk : Keeps M w w') (hn : ¬ M mb) (hX : ∀ b, b < w.heap.size → X b → ¬ M b) (hX' : ∀ b, b < w.heap.size → X b → X' b) : AnsX w' X' mb n ans := by
  obtain ⟨es, c, hb, hi, ho, hx⟩ := h
  refine ⟨es, c, hk.blk hb hn, hi, ho, fun q h0 h1 => ?_⟩
  have := hx q h0 h1
  split at this
  · obtain ⟨v, hv, hkx⟩ := this
    exact ⟨v, hv, hkx.keep hk hX hX'⟩
  · exact this
theorem OpenX.keep {M : Nat → Prop} {w w' : World} {ob : Nat} {on : List Int} (h : OpenX w ob on) (hk : Keeps M w w') (hn : ¬ M ob) : OpenX w' ob on := by
  obtain ⟨es, c, hb, hi, hx⟩ := h
  exact ⟨es, c, hk.blk hb hn, hi, hx⟩
theorem IntsX.at {w : World} {X : Nat → Prop} {v : Value} {xs : List Int} (h : IntsX w X v xs) : ∃ A c, v = .slice A xs.length c ∧ xs.length ≤ c ∧ ∀ i, i < xs.length → ∃ b o, A = some ⟨b, o, none⟩ ∧ X b ∧ w.cell? ⟨b, o + i, none⟩ = some (.int .i64 (xs.getD i 0)) := h
theorem rule_of (E : Env) {q : Int} {i : Nat} (h : q = (i : Int)) : E.rules.getD i default = E.rule q := by unfold Env.rule; rw [h]; simp
end Go.Proofs.QW

/-
  What the engine's small methods of package query come to (ok, is, input, Revision). Condition: the engine lies in memory as Q1 says.
-/
namespace Go.Proofs.QW
open Go.RowKit Go.Proofs.KL Go.Proofs.QM
set_option maxRecDepth 100000

theorem ok_some (eb mb : Nat) (w : World) (hc : w.cell? ⟨eb, 2, none⟩ = some (.map (some mb))) :
    Calls Tryd.prog 51 #[.pointer (some ⟨eb, 0, none⟩)] w fun e w' => e = .returned (.bool true) ∧ w = w' := by
  have hn := fun (w : World) (r : Option Nat) => run_neq_map_nil (P := Tryd.prog) w 61 3 85 r Tryd.underlying61
  go_enter Tryd.func51, Tryd.ntmps51
  go_wp2
  go_ret
  exact ⟨rfl, rfl⟩
theorem ok_none (eb : Nat) (w : World) (hc : w.cell? ⟨eb, 2, none⟩ = some (.map none)) :
    Calls Tryd.prog 51 #[.pointer (some ⟨eb, 0, none⟩)] w fun e w' => e = .returned (.bool false) ∧ w = w' := by
  have hn := fun (w : World) (r : Option Nat) => run_neq_map_nil (P := Tryd.prog) w 61 3 85 r Tryd.underlying61
  go_enter Tryd.func51, Tryd.ntmps51
  go_wp2
  go_ret
  exact ⟨rfl, rfl⟩
theorem ok_nil (w : World) :
    Calls Tryd.prog 51 #[.pointer none] w fun e w' => e = .returned (.bool false) ∧ w = w' := by
  go_enter Tryd.func51, Tryd.ntmps51
  go_wp2
  go_ret
  exact ⟨rfl, rfl⟩
def isErr (n : Nat) (q : Int) : Int := if q < 0 ∨ (n : Int) ≤ q then 5 else 0
theorem is_some (eb mb : Nat) (q : Int) (A : Option Addr) (n c : Nat) (w : World) (h2 : w.cell? ⟨eb, 2, none⟩ = some (.map (some mb))) (h0 : w.cell? ⟨eb, 0, none⟩ = some (.slice A n c)) (_hn : n ≤ 200) :
    Calls Tryd.prog 38 #[.pointer (some ⟨eb, 0, none⟩), .int .i64 q] w fun e w' => e = .returned (.int .i64 (isErr n q)) ∧ w = w' := by
  unfold isErr
  by_cases hq : q < 0
  · rw [if_pos (.inl hq)]
    go_enter Tryd.func38, Tryd.ntmps38
    go_wp2_with (go_at_call 51; refine (ok_some _ _ _ (by assumption)).mono ?_; rintro e w' ⟨rfl, rfl⟩)
    go_ret
    exact ⟨rfl, rfl⟩
  · by_cases hq2 : (n : Int) ≤ q
    · rw [if_pos (.inr hq2)]
      go_enter Tryd.func38, Tryd.ntmps38
      go_wp2_with (go_at_call 51; refine (ok_some _ _ _ (by assumption)).mono ?_; rintro e w' ⟨rfl, rfl⟩)
      go_ret
      exact ⟨rfl, rfl⟩
    · rw [if_neg (by omega)]
      go_enter Tryd.func38, Tryd.ntmps38
      go_wp2_with (go_at_call 51; refine (ok_some _ _ _ (by assumption)).mono ?_; rintro e w' ⟨rfl, rfl⟩)
      go_ret
      exact ⟨rfl, rfl⟩
theorem is_nil (q : Int) (w : World) :
    Calls Tryd.prog 38 #[.pointer none, .int .i64 q] w fun e w' => e = .returned (.int .i64 1) ∧ w = w' := by
  go_enter Tryd.func38, Tryd.ntmps38
  go_wp2_with (go_at_call 51; refine (ok_nil _).mono ?_; rintro e w' ⟨rfl, rfl⟩)
  go_ret
  exact ⟨rfl, rfl⟩
theorem is_none (eb : Nat) (q : Int) (w : World) (hc : w.cell? ⟨eb, 2, none⟩ = some (.map none)) :
    Calls Tryd.prog 38 #[.pointer (some ⟨eb, 0, none⟩), .int .i64 q] w fun e w' => e = .returned (.int .i64 1) ∧ w = w' := by
  go_enter Tryd.func38, Tryd.ntmps38
  go_wp2_with (go_at_call 51; refine (ok_none _ _ (by assumption)).mono ?_; rintro e w' ⟨rfl, rfl⟩)
  go_ret
  exact ⟨rfl, rfl⟩
theorem input_any (eb : Nat) (q : Int) (rs : List QRule) (X : Nat → Prop) (rv : Value) (w : World) (h0 : w.cell? ⟨eb, 0, none⟩ = some rv) (hr : RulesX w X rv rs) (hq0 : 0 ≤ q) (hq1 : q < rs.length) (_hl : rs.length ≤ 200) :
    Calls Tryd.prog 37 #[.pointer (some ⟨eb, 0, none⟩), .int .i64 q] w fun e w' => e = .returned (.bool ((rs.getD q.toNat default).kind == 1)) ∧ w = w' := by
  obtain ⟨i, rfl⟩ := Int.eq_ofNat_of_zero_le hq0
  obtain ⟨A, c, rfl, hc, hx⟩ := hr
  obtain ⟨b, o, u, rfl, hb, hk, _, _, _⟩ := hx i (by omega)
  clear hx
  have hq1' : i < rs.length := by omega
  simp only [Int.toNat_natCast]
  generalize (rs.getD i default).kind = k at *
  generalize rs.length = n at *
  go_enter Tryd.func37, Tryd.ntmps37
  go_wp2
  go_ret
  exact ⟨rfl, rfl⟩
end Go.Proofs.QW

/-
  Operations on maps keyed by integers, as steps of a walk. No condition.
-/
namespace Go.Proofs.KL
open Go.RowKit
section
variable {P : Program} {ops : Array Oper} {rest : List Oper} {o : Oper} {a : Act} {Q : Exit → Act → World → Prop} {W : World} {t K E : TypeId} {kk : IntKind} {m : Nat} {es : Array MapEntry} {c : Nat}
theorem ev_lookup {mo ko : Operand} {ok : Bool} (hgd : o.guard = none) (ho : o.op = .lookup t mo ko ok) (ht : P.underlying t = some (.map K E)) (hk : P.underlying K = some (.int kk)) {z : Value} (hz : (P.info? E).map (·.zero) = some (some z))
    {q : Int} (hm : a.eval mo = .map (some m)) (hq : a.eval ko = .int .i64 q) (hb : W.heap[m]? = some (.map es c)) (hkey : IntKeyed es.toList)
    (h : wpList P ops Q rest (a.put o.dst (if ok then .tuple #[(mlook es.toList q).getD z, .bool (mlook es.toList q).isSome] else (mlook es.toList q).getD z)) W) : wpList P ops Q (o :: rest) a W := by
  obtain ⟨i, hi, hzz⟩ := Option.map_eq_some_iff.1 hz
  refine ev_run hgd ?_ h
  simp [execOp, ho, hm, hq, run_lookup_int2 ht hk hi hzz hb hkey]
theorem ev_lookup_ok {mo ko : Operand} (hgd : o.guard = none) (ho : o.op = .lookup t mo ko true) (ht : P.underlying t = some (.map K E)) (hk : P.underlying K = some (.int kk)) {z : Value} (hz : (P.info? E).map (·.zero) = some (some z))
    {q : Int} (hm : a.eval mo = .map (some m)) (hq : a.eval ko = .int .i64 q) (hb : W.heap[m]? = some (.map es c)) (hkey : IntKeyed es.toList)
    (h : wpList P ops Q rest (a.put o.dst (.tuple #[(mlook es.toList q).getD z, .bool (mlook es.toList q).isSome])) W) : wpList P ops Q (o :: rest) a W :=
  ev_lookup hgd ho ht hk hz hm hq hb hkey h
theorem ev_lookup_v {mo ko : Operand} (hgd : o.guard = none) (ho : o.op = .lookup t mo ko false) (ht : P.underlying t = some (.map K E)) (hk : P.underlying K = some (.int kk)) {z : Value} (hz : (P.info? E).map (·.zero) = some (some z))
    {q : Int} (hm : a.eval mo = .map (some m)) (hq : a.eval ko = .int .i64 q) (hb : W.heap[m]? = some (.map es c)) (hkey : IntKeyed es.toList)
    (h : wpList P ops Q rest (a.put o.dst ((mlook es.toList q).getD z)) W) : wpList P ops Q (o :: rest) a W :=
  ev_lookup hgd ho ht hk hz hm hq hb hkey h
theorem ev_mapUpdate {mo ko vo : Operand} (hgd : o.guard = none) (hN : o.dst = none) (ho : o.op = .mapUpdate t mo ko vo) (ht : P.underlying t = some (.map K E)) (hk : P.underlying K = some (.int kk))
    {q : Int} {v : Value} (hm : a.eval mo = .map (some m)) (hq : a.eval ko = .int .i64 q) (hv : a.eval vo = v) (hb : W.heap[m]? = some (.map es c)) (hkey : IntKeyed es.toList)
    (h : ∀ (es' : Array MapEntry) c' w1, w1.heap[m]? = some (.map es' c') → IntKeyed es'.toList → (∀ q', mlook es'.toList q' = if q' = q then some v else mlook es.toList q') → Keeps (· = m) W w1 → wpList P ops Q rest a w1) : wpList P ops Q (o :: rest) a W := by
  obtain ⟨es', c', hr, h1, h2⟩ := run_mapUpdate_int2 ht hk hb hkey q v
  refine ev_skip hgd hN (w1 := { W with heap := W.heap.setIfInBounds m (.map es' c') }) ?_ (h es' c' _ ?_ h1 h2 ((Keeps.refl (· = m) W).setObj (.inl (rfl : m = m)) _))
  · simp [execOp, ho, hm, hq, hv, hr]
  · show (W.heap.setIfInBounds m (.map es' c'))[m]? = _
    rw [Array.getElem?_setIfInBounds, if_pos rfl, if_pos (blk_lt hb)]
theorem ev_delete {mo ko : Operand} {tk : TypeId} (hgd : o.guard = none) (hN : o.dst = none) (ho : o.op = .call { callee := .builtin .delete, args := #[mo, ko], argTypes := #[t, tk] }) (ht : P.underlying t = some (.map K E)) (hk : P.underlying K = some (.int kk))
    {q : Int} (hm : a.eval mo = .map (some m)) (hq : a.eval ko = .int .i64 q) (hb : W.heap[m]? = some (.map es c)) (hkey : IntKeyed es.toList)
    (h : ∀ (es' : Array MapEntry) c' w1, w1.heap[m]? = some (.map es' c') → IntKeyed es'.toList → (∀ q', mlook es'.toList q' = if q' = q then none else mlook es.toList q') → Keeps (· = m) W w1 → wpList P ops Q rest a w1) : wpList P ops Q (o :: rest) a W := by
  obtain ⟨es', c', hr, h1, h2⟩ := run_delete_int2 ht hk hb hkey q o.type tk
  have hrun : (execOp a.eval o).run P W = .ok (.value (.tuple #[])) { W with heap := W.heap.setIfInBounds m (.map es' c') } := by
    simp [execOp, ho, resolve, invoke, builtin, hm, hq, hr]
  refine wpList_plain hgd fun κ hκ => ?_
  unfold Oper.wp
  rw [hrun]
  show κ (a.put o.dst _) _
  rw [hN]
  refine hκ _ _ (h es' c' _ ?_ h1 h2 ((Keeps.refl (· = m) W).setObj (.inl (rfl : m = m)) _))
  show (W.heap.setIfInBounds m (.map es' c'))[m]? = _
  rw [Array.getElem?_setIfInBounds, if_pos rfl, if_pos (blk_lt hb)]
end
end Go.Proofs.KL

/-
  What the looks at an engine of package query come to (Kept, found, When). Condition: the engine lies in memory as Q1 says.
-/
namespace Go.Proofs.QW
open Go.RowKit Go.Proofs.KL Go.Proofs.QM
set_option maxRecDepth 100000

def Z85 : Value := .agg #[.int .i64 0, .slice none 0 0, .int .i64 0, .int .i64 0]
theorem zero85 : (Tryd.prog.info? 85).map (·.zero) = some (some Z85) := by kernel_rfl
theorem info85 : ∃ i, Tryd.prog.info? 85 = some i ∧ i.size = 4 := by
  have h : (Tryd.prog.info? 85).map (·.size) = some 4 := by kernel_rfl
  obtain ⟨i, hi, hs⟩ := Option.map_eq_some_iff.1 h
  exact ⟨i, hi, hs⟩

/-- The engine as it lies: its block's four cells. -/
structure EngAt (w : World) (X : Nat → Prop) (eb ib mb : Nat) (E : Env) (ans : List (Option KeptR)) : Prop where
  blk : ∃ rv c, w.heap[eb]? = some (.cells #[rv, .slice (some ⟨ib, 0, none⟩) E.rules.length c, .map (some mb), .int .i64 E.rev] 63 (0, 0)) ∧ RulesX w X rv E.rules
  inp : InpX w ib E.rules.length E.inp E.inpCh
  ans : AnsX w X mb E.rules.length ans
  xe : ¬ X eb
  xi : ¬ X ib
  xm : ¬ X mb
def keptVal (E : Env) (ans : List (Option KeptR)) (q : Int) : Int × Bool :=
  if isErr E.rules.length q ≠ 0 then (0, false)
  else if (E.rule q).kind = 1 then (E.inp.getD q.toNat 0, true)
  else match ans.getD q.toNat none with
    | some k => (k.value, true)
    | none => (0, false)
theorem getD_rule (E : Env) (i : Nat) : E.rules.getD i default = E.rule (i : Int) := by simp [Env.rule]

def k0 : KeptR := ⟨0, [], 0, 0⟩
theorem nil_ints (w : World) (X : Nat → Prop) : IntsX w X (.slice none 0 0) [] := ⟨none, 0, rfl, Nat.le_refl _, fun i hi => absurd hi (by simp)⟩
theorem AnsX.get {w : World} {X : Nat → Prop} {n : Nat} {ans : List (Option KeptR)} {es : Array MapEntry} {q : Int} (h0 : 0 ≤ q) (h1 : q < n)
    (hx : ∀ q : Int, 0 ≤ q → q < n → match ans.getD q.toNat none with
      | some k => ∃ v, mlook es.toList q = some v ∧ KeptX w X v k
      | none => mlook es.toList q = none) :
    ∃ u, (mlook es.toList q).getD Z85 = .agg #[.int .i64 ((ans.getD q.toNat none).getD k0).value, u, .int .i64 ((ans.getD q.toNat none).getD k0).checked, .int .i64 ((ans.getD q.toNat none).getD k0).changed] ∧
      IntsX w X u ((ans.getD q.toNat none).getD k0).asked ∧ (mlook es.toList q).isSome = (ans.getD q.toNat none).isSome := by
  have := hx q h0 h1
  cases ho : ans.getD q.toNat none with
  | none =>
    rw [ho] at this
    simp only at this
    rw [this]
    exact ⟨.slice none 0 0, rfl, nil_ints _ _, rfl⟩
  | some k =>
    rw [ho] at this
    obtain ⟨v, hv, u, hu, hi⟩ := this
    rw [hv]
    exact ⟨u, hu, hi, rfl⟩
theorem Kept_any (X : Nat → Prop) (eb ib mb : Nat) (E : Env) (ans : List (Option KeptR)) (q : Int) (w : World) (h : EngAt w X eb ib mb E ans) (hl : E.rules.length ≤ 200) :
    Calls Tryd.prog 19 #[.pointer (some ⟨eb, 0, none⟩), .int .i64 q] w fun e w' => e = .returned (.tuple #[.int .i64 (keptVal E ans q).1, .bool (keptVal E ans q).2]) ∧ Keeps Nob w w' := by
  obtain ⟨⟨rv, c, hb, hr⟩, ⟨cs, hib, hinp⟩, ⟨es, cl, hmb, hkey, hout, hans⟩, _, _, _⟩ := h
  have hr0 := hr
  obtain ⟨A, cc, rfl, hcc, hrx⟩ := hr0
  have e0 := blk_cell hb 0
  have e1 := blk_cell hb 1
  have e2 := blk_cell hb 2
  simp only [List.getElem?_toArray, List.getElem?_cons_zero, List.getElem?_cons_succ] at e0 e1 e2
  have Hr := Lib.hid hr
  have Hmb := Lib.hid hmb
  have Hinp := Lib.hid hinp
  have Hib := Lib.hid hib
  have Hkey := Lib.hid hkey
  have Hans := Lib.hid hans
  clear hr hb hrx hmb hinp hib hkey hans hout
  unfold keptVal
  by_cases hq : q < 0 ∨ (E.rules.length : Int) ≤ q
  · have hE : isErr E.rules.length q = 5 := if_pos hq
    rw [if_pos (by rw [hE]; decide)]
    go_enter Tryd.func19, Tryd.ntmps19
    go_wp2_with (go_at_call 38; refine (is_some _ _ _ _ _ _ _ (by assumption) (by assumption) hl).mono ?_; rintro e w' ⟨rfl, rfl⟩; rw [hE])
    go_ret2
    exact ⟨rfl, Keeps.refl _ _⟩
  · have hE : isErr E.rules.length q = 0 := if_neg hq
    have hq0 : 0 ≤ q := by omega
    have hq1 : q < E.rules.length := by omega
    obtain ⟨i, rfl⟩ := Int.eq_ofNat_of_zero_le hq0
    rw [if_neg (by rw [hE]; decide)]
    have hin : (E.rules.getD (i : Int).toNat default).kind = (E.rule i).kind := by simp [Env.rule]
    by_cases hk : (E.rule (i : Int)).kind = 1
    · rw [if_pos hk]
      have hkb : ((E.rule (i : Int)).kind == 1) = true := by rw [hk]; rfl
      obtain ⟨c0, _, _, _⟩ := Hinp.out i (by omega)
      have d0 := blk_cell Hib.out (i * 4)
      rw [c0] at d0
      have hi' : i < E.rules.length := by omega
      simp only [Int.toNat_natCast]
      go_enter Tryd.func19, Tryd.ntmps19
      go_wp2_with (first | (go_at_call 38; refine (is_some _ _ _ _ _ _ _ (by assumption) (by assumption) hl).mono ?_; rintro e w' ⟨rfl, rfl⟩; rw [hE]) | (go_at_call 37; refine (input_any _ _ E.rules X _ _ (by assumption) Hr.out hq0 hq1 hl).mono ?_; rintro e w' ⟨rfl, rfl⟩; rw [hin, hkb]))
      go_ret2
      exact ⟨rfl, Keeps.refl _ _⟩
    · rw [if_neg hk]
      have hkb : ((E.rule (i : Int)).kind == 1) = false := by simpa using hk
      obtain ⟨i85, hi85, hs85⟩ := info85
      obtain ⟨u, hv, ⟨uA, uc, rfl, _, _⟩, hsm⟩ := AnsX.get hq0 hq1 Hans.out
      have hfin : (match ans.getD (i : Int).toNat none with | some k => (k.value, true) | none => (0, false)) = (((ans.getD (i : Int).toNat none).getD k0).value, (ans.getD (i : Int).toNat none).isSome) := by
        cases ans.getD (i : Int).toNat none <;> rfl
      rw [hfin]
      generalize (ans.getD (i : Int).toNat none).getD k0 = k at *
      generalize k.asked.length = ul at *
      generalize (ans.getD (i : Int).toNat none).isSome = sm at *
      have Hv := Lib.hid hv
      have Hsm := Lib.hid hsm
      have Hs85 := Lib.hid hs85
      have Hi85 := Lib.hid hi85
      clear hv hsm hfin hs85 hi85
      go_enter Tryd.func19, Tryd.ntmps19
      go_wp2_with (first
        | (go_at_call 38; refine (is_some _ _ _ _ _ _ _ (by assumption) (by assumption) hl).mono ?_; rintro e w' ⟨rfl, rfl⟩; rw [hE])
        | (go_at_call 37; refine (input_any _ _ E.rules X _ _ (by assumption) Hr.out hq0 hq1 hl).mono ?_; rintro e w' ⟨rfl, rfl⟩; rw [hin, hkb])
        | ((with_reducible refine at_dst (N := 29) rfl ?_); refine ev_lookup_ok rfl rfl Tryd.underlying61 Tryd.underlying3 zero85 rfl rfl Hmb.out Hkey.out ?_; rw [Hv.out, Hsm.out]; (try simp only [Act.put, List.setIfInBounds_toArray, List.set_cons_zero, List.set_cons_succ]))
        | ((with_reducible refine at_dst (N := 6) rfl ?_); refine ev_alloc rfl rfl zero85 rfl ?_; intro g1 w1 hg1 hl1 hb1 hk1; have Hb1 := Lib.hid hb1; clear hb1; (try simp only [Act.put, List.setIfInBounds_toArray, List.set_cons_zero, List.set_cons_succ]))
        | ((with_reducible refine at_store (t := 85) rfl ?_); go_must (refine ev_store (cs' := #[.int .i64 k.value, .slice uA ul uc, .int .i64 k.checked, .int .i64 k.changed]) rfl rfl rfl rfl rfl rfl Hi85.out Hs85.out rfl Hb1.out (Nat.le_of_ble_eq_true rfl) rfl ?_); intro w2 hb2 hk2; have f0 := blk_cell hb2 0; have f1 := blk_cell hb2 1; have f2 := blk_cell hb2 2; have f3 := blk_cell hb2 3; have Hb2 := Lib.hid hb2; clear hb2))
      go_ret2
      exact ⟨rfl, (hk1.trans hk2 (fun i hi e => by omega))⟩
end Go.Proofs.QW

/-
  A region that leaves its order open, walked in one order that is named: quiet operations are taken as early as they may come, operations that act come one by one. No condition but the named order's own check.
-/
namespace Go.Proofs.KL
open Go.RowKit
section
variable {P : Program} {ops : Array Oper} {Q : Exit → Act → World → Prop} {S : World → Prop}
def permB (md : Region.Mode) (ops : Array Oper) : List (Nat × Bool) → Array Bool → Bool
  | [], listed => (Region.ready md ops listed).isEmpty
  | (i, true) :: r, listed => Region.free md ops listed i && ((Region.ready md ops listed).contains i && permB md ops r (listed.setIfInBounds i true))
  | (i, false) :: r, listed => (Region.ready md ops listed == [i]) && permB md ops r (listed.setIfInBounds i true)
def wpPerm (P : Program) (ops : Array Oper) (Q : Exit → Act → World → Prop) (S : World → Prop) : List (Nat × Bool) → Act → World → Prop
  | [], a, w => Q .normal a w
  | (i, true) :: r, a, w => ∃ o v, ops[i]? = some o ∧ YieldsIf P ops S o v a ∧ wpPerm P ops Q S r (a.put o.dst v) w
  | (i, false) :: r, a, w => ∃ o, ops[i]? = some o ∧ wpList P ops (Exit.then (fun a' w' => S w' ∧ wpPerm P ops Q S r a' w') Q) [o] a w
theorem perm_sound {md : Region.Mode} (hs : Region.noSelect ops = true) (hQ : ∀ c a d v w, Q (.panic c) (Act.put a d v) w → Q (.panic c) a w) :
    ∀ (π : List (Nat × Bool)) (fuel : Nat) (listed : Array Bool) (a : Act) (w : World), permB md ops π listed = true → π.length ≤ fuel → S w → wpPerm P ops Q S π a w → wpAnyH P md ops Q S fuel listed a w
  | [], fuel, listed, a, w, hB, _, _, h => wpAnyH_done (by simpa [permB] using hB) h fuel
  | (i, true) :: r, fuel, listed, a, w, hB, hl, hS, h => by
    obtain ⟨o, v, ho, hy, h⟩ := h
    obtain ⟨fuel, rfl⟩ : ∃ m, fuel = m + 1 := ⟨fuel - 1, by simp at hl; omega⟩
    simp only [permB, Bool.and_eq_true] at hB
    exact wpAnyH_take ho hs hB.1 hB.2.1 (fun c a w => hQ c a _ _ w) hy hS (perm_sound hs hQ r fuel _ _ _ hB.2.2 (by simpa using hl) hS h)
  | (i, false) :: r, fuel, listed, a, w, hB, hl, hS, h => by
    obtain ⟨o, ho, h⟩ := h
    obtain ⟨fuel, rfl⟩ : ∃ m, fuel = m + 1 := ⟨fuel - 1, by simp at hl; omega⟩
    simp only [permB, Bool.and_eq_true, beq_iff_eq] at hB
    refine wpAnyH_all hB.1 (by simp) (fun j hj => ?_)
    rw [List.mem_singleton.1 hj]
    unfold wpOp
    rw [ho]
    have key : ∀ a' w', (S w' ∧ wpPerm P ops Q S r a' w') → (S w' ∧ wpAnyH P md ops Q S fuel (listed.setIfInBounds i true) a' w') :=
      fun a' w' ⟨h1, h2⟩ => ⟨h1, perm_sound hs hQ r fuel _ _ _ hB.2 (by simpa using hl) h1 h2⟩
    unfold wpList at h
    simp only
    split
    · rename_i hw
      rw [if_pos hw] at h
      rcases h with h | ⟨h1, h2⟩
      · refine .inl ?_
        have h' : o.wp P a w (fun a' w' => S w' ∧ wpPerm P ops Q S r a' w') Q := h
        exact Oper.wp_mono key h'
      · exact .inr ⟨h1, h2⟩
    · rename_i hw
      rw [if_neg hw] at h
      exact key _ _ h
/-- THE RULE. -/
theorem wp_region_perm {id : Nat} {l : List Oper} {a : Act} {w : World} (π : List (Nat × Bool)) (S : World → Prop) (hm : P.follows .mixedOrders = true) (hs : Region.noSelect l.toArray = true)
    (hB : permB .any l.toArray π (Array.replicate l.toArray.size false) = true) (hl : π.length ≤ l.toArray.size) (hQ : ∀ c a d v w, Q (.panic c) (Act.put a d v) w → Q (.panic c) a w)
    (hS : S w.drew) (h : wpPerm P l.toArray Q S π a w.drew) : (Code.region id l.toArray true).wp P Q a w :=
  wp_region_held (S := S) hm (perm_sound hs hQ π _ _ _ _ hB hl hS h)
theorem perm_nil {a : Act} {w : World} (h : Q .normal a w) : wpPerm P ops Q S [] a w := h
theorem perm_q {i : Nat} {r : List (Nat × Bool)} {l : List Oper} {o : Oper} {v : Value} {a : Act} {w : World} (d : Option Tmp) (ho : l[i]? = some o) (hd : o.dst = d) (hw : Region.wanted o (yielded l.toArray a.tmps) = true) (hr : ∀ w', S w' → (execOp a.eval o).run P w' = .ok (.value v) w')
    (h : wpPerm P l.toArray Q S r (a.put d v) w) : wpPerm P l.toArray Q S ((i, true) :: r) a w := ⟨o, v, by simpa using ho, .inl ⟨hw, hr⟩, hd ▸ h⟩
theorem perm_skip {i : Nat} {r : List (Nat × Bool)} {l : List Oper} {o : Oper} {a : Act} {w : World} (d : Option Tmp) (ho : l[i]? = some o) (hd : o.dst = d) (hw : Region.wanted o (yielded l.toArray a.tmps) = false)
    (h : wpPerm P l.toArray Q S r (a.put d undef) w) : wpPerm P l.toArray Q S ((i, true) :: r) a w := ⟨o, undef, by simpa using ho, .inr ⟨hw, rfl⟩, hd ▸ h⟩
theorem perm_e {i : Nat} {r : List (Nat × Bool)} {l : List Oper} {o : Oper} {a : Act} {w : World} (ho : l[i]? = some o)
    (h : wpList P l.toArray (Exit.then (fun a' w' => S w' ∧ wpPerm P l.toArray Q S r a' w') Q) [o] a w) : wpPerm P l.toArray Q S ((i, false) :: r) a w := ⟨o, by simpa using ho, h⟩
end
end Go.Proofs.KL

/-
  One asking, as it lies in memory; what a nested asking must come to; and that whatever looks at what a kept result asked (stale) comes to the model's 'staleF'. Condition: nested askings come to the model's.
-/
namespace Go.Proofs.QW
open Go.RowKit Go.Proofs.KL Go.Proofs.QM
set_option maxRecDepth 100000
set_option linter.unusedSimpArgs false
set_option linter.unusedVariables false

/-- The blocks that an asking may write. -/
def MSet (ab ob mb : Nat) (wv : Value) : Nat → Prop := fun k => k = ab ∨ k = ob ∨ k = mb ∨ some k = wv.ownBlock
/-- An asking as it lies, but for what is open. -/
structure AskC (w : World) (X : Nat → Prop) (ab eb ib mb ob : Nat) (E : Env) (s : PS) (wv : Value) : Prop where
  ablk : w.heap[ab]? = some (.cells #[.pointer (some ⟨eb, 0, none⟩), .map (some ob), wv, .int .i64 E.most] 89 (0, 0))
  eng : EngAt w X eb ib mb E s.ans
  oblk : ∃ es c, w.heap[ob]? = some (.map es c)
  own : w.ownsRow 0 3 1 wv s.done.length (s.done.map (Value.int .i64))
  xa : ¬ X ab
  xo : ¬ X ob
  xw : ∀ b, wv.ownBlock = some b → ¬ X b
  mo : mb ≠ ob
  xl : ∀ k, X k → k < w.heap.size
theorem own_lt {w : World} {base e size n : Nat} {v : Value} {xs : List Value} (h : w.ownsRow base e size v n xs) : ∀ b, v.ownBlock = some b → b < w.heap.size ∧ ∃ cs, w.heap[b]? = some (.cells cs e (0, 0)) := by
  intro b hb
  rcases h.2 with ⟨rfl, _⟩ | ⟨g, cap, cur, rfl, _, hh, _⟩
  · cases hb
  · simp [Value.ownBlock] at hb; subst hb; exact ⟨blk_lt hh, cur, hh⟩
theorem AskC.lt {w : World} {X : Nat → Prop} {ab eb ib mb ob : Nat} {E : Env} {s : PS} {wv : Value} (h : AskC w X ab eb ib mb ob E s wv) : ∀ k, MSet ab ob mb wv k → k < w.heap.size := by
  intro k hk
  rcases hk with rfl | rfl | rfl | hk
  · exact blk_lt h.ablk
  · obtain ⟨es, c, ho⟩ := h.oblk; exact blk_lt ho
  · obtain ⟨es, c, hm, _⟩ := h.eng.ans; exact blk_lt hm
  · exact (own_lt h.own k hk.symm).1
theorem AskC.notX {w : World} {X : Nat → Prop} {ab eb ib mb ob : Nat} {E : Env} {s : PS} {wv : Value} (h : AskC w X ab eb ib mb ob E s wv) : ∀ k, MSet ab ob mb wv k → ¬ X k := by
  intro k hk
  rcases hk with rfl | rfl | rfl | hk
  · exact h.xa
  · exact h.xo
  · exact h.eng.xm
  · exact h.xw k hk.symm
theorem ownsRow_keep {M : Nat → Prop} {w w' : World} {base e size n : Nat} {v : Value} {xs : List Value} (h : w.ownsRow base e size v n xs) (hk : Keeps M w w') (hn : ∀ b, v.ownBlock = some b → ¬ M b) : w'.ownsRow base e size v n xs := by
  refine ⟨h.1, ?_⟩
  rcases h.2 with h2 | ⟨g, cap, cur, hv, hg, hh, r⟩
  · exact .inl h2
  · exact .inr ⟨g, cap, cur, hv, hg, hk.blk hh (hn g (by rw [hv]; rfl)), r⟩
theorem EngAt.keep {M X X' : Nat → Prop} {w w' : World} {eb ib mb : Nat} {E : Env} {ans : List (Option KeptR)} (h : EngAt w X eb ib mb E ans) (hk : Keeps M w w') (he : ¬ M eb) (hi : ¬ M ib) (hm : ¬ M mb)
    (hX : ∀ b, b < w.heap.size → X b → ¬ M b) (hX' : ∀ b, b < w.heap.size → (X' b ↔ X b)) : EngAt w' X' eb ib mb E ans := by
  obtain ⟨⟨rv, c, hb, hr⟩, hinp, hans, xe, xi, xm⟩ := h
  obtain ⟨cs, hib, _⟩ := id hinp
  obtain ⟨es, cl, hmb, _⟩ := id hans
  exact ⟨⟨rv, c, hk.blk hb he, hr.keep hk hX (fun b hb h => (hX' b hb).2 h)⟩, hinp.keep hk hi, hans.keep hk hm hX (fun b hb h => (hX' b hb).2 h), fun h => xe ((hX' eb (blk_lt hb)).1 h), fun h => xi ((hX' ib (blk_lt hib)).1 h), fun h => xm ((hX' mb (blk_lt hmb)).1 h)⟩
/-- Blocks that are none of the asking's are written. -/
theorem AskC.keep {M : Nat → Prop} {w w' : World} {X : Nat → Prop} {ab eb ib mb ob : Nat} {E : Env} {s : PS} {wv : Value} (h : AskC w X ab eb ib mb ob E s wv) (hk : Keeps M w w') (hM : ∀ k, k < w.heap.size → M k → False) : AskC w' X ab eb ib mb ob E s wv := by
  obtain ⟨⟨rv, c, hb, _⟩, ⟨cs, hib, _⟩, ⟨es, cl, hmb, _⟩, _, _, _⟩ := id h.eng
  obtain ⟨eo, co, ho⟩ := h.oblk
  exact ⟨hk.blk h.ablk (fun hm => hM _ (blk_lt h.ablk) hm), h.eng.keep hk (fun hm => hM _ (blk_lt hb) hm) (fun hm => hM _ (blk_lt hib) hm) (fun hm => hM _ (blk_lt hmb) hm) (fun b hb _ hm => hM b hb hm) (fun _ _ => Iff.rfl),
    ⟨eo, co, hk.blk ho (fun hm => hM _ (blk_lt ho) hm)⟩, ownsRow_keep h.own hk (fun b hb hm => hM b (own_lt h.own b hb).1 hm), h.xa, h.xo, h.xw, h.mo, fun k hx => Nat.lt_of_lt_of_le (h.xl k hx) hk.size⟩
/-- What an asking leaves. -/
structure AskPost (w : World) (X : Nat → Prop) (ab eb ib mb ob : Nat) (E : Env) (wv : Value) (s' : PS) (w' : World) (X' : Nat → Prop) (wv' : Value) : Prop where
  xx : ∀ b, b < w.heap.size → (X' b ↔ X b)
  keep : Keeps (MSet ab ob mb wv) w w'
  row : wv'.ownBlock = wv.ownBlock ∨ ∃ b, wv'.ownBlock = some b ∧ w.heap.size ≤ b
  core : AskC w' X' ab eb ib mb ob E s' wv'
theorem AskPost.refl {w : World} {X : Nat → Prop} {ab eb ib mb ob : Nat} {E : Env} {s : PS} {wv : Value} (h : AskC w X ab eb ib mb ob E s wv) : AskPost w X ab eb ib mb ob E wv s w X wv :=
  ⟨fun _ _ => Iff.rfl, Keeps.refl _ _, .inl rfl, h⟩
/-- Other blocks that are new, or that are none of the asking's, are written ahead of what an asking leaves. -/
theorem AskPost.after {M : Nat → Prop} {w w1 w2 : World} {X X2 : Nat → Prop} {ab eb ib mb ob : Nat} {E : Env} {s : PS} {wv wv2 : Value} (hk : Keeps Nob w w1) (h : AskPost w1 X ab eb ib mb ob E wv s w2 X2 wv2) (_hM : M = M) : AskPost w X ab eb ib mb ob E wv s w2 X2 wv2 :=
  ⟨fun b hb => h.xx b (Nat.lt_of_lt_of_le hb hk.size), (hk.mono (fun _ _ h => h.elim)).trans h.keep (fun _ _ h => h), h.row.imp id (fun ⟨b, h1, h2⟩ => ⟨b, h1, Nat.le_trans hk.size h2⟩), h.core⟩
theorem AskPost.trans {w w1 w2 : World} {X X1 X2 : Nat → Prop} {ab eb ib mb ob : Nat} {E : Env} {s1 s2 : PS} {wv wv1 wv2 : Value} (h : AskPost w X ab eb ib mb ob E wv s1 w1 X1 wv1) (k : AskPost w1 X1 ab eb ib mb ob E wv1 s2 w2 X2 wv2) :
    AskPost w X ab eb ib mb ob E wv s2 w2 X2 wv2 := by
  have hs := h.keep.size
  refine ⟨fun b hb => (k.xx b (Nat.lt_of_lt_of_le hb hs)).trans (h.xx b hb), h.keep.trans k.keep (fun i hi hm => ?_), ?_, k.core⟩
  · rcases hm with h1 | h1 | h1 | h1
    · exact .inl h1
    · exact .inr (.inl h1)
    · exact .inr (.inr (.inl h1))
    · rcases h.row with hr | ⟨b, hb, hlt⟩
      · exact .inr (.inr (.inr (h1.trans hr)))
      · rw [hb] at h1; injection h1 with h1; omega
  · rcases k.row with hr | ⟨b, hb, hlt⟩
    · rw [hr]; exact h.row
    · exact .inr ⟨b, hb, by omega⟩
/-- Blocks of one's own are written behind what an asking leaves. -/
theorem AskPost.then {M : Nat → Prop} {w w1 w2 : World} {X X1 : Nat → Prop} {ab eb ib mb ob : Nat} {E : Env} {s1 : PS} {wv wv1 : Value} (h : AskPost w X ab eb ib mb ob E wv s1 w1 X1 wv1) (k : Keeps M w1 w2) (hM : ∀ i, i < w1.heap.size → M i → w.heap.size ≤ i)
    (hc : AskC w2 X1 ab eb ib mb ob E s1 wv1) : AskPost w X ab eb ib mb ob E wv s1 w2 X1 wv1 :=
  ⟨h.xx, h.keep.trans k (fun i hi hm => absurd hi (by have := hM i (Nat.lt_of_lt_of_le hi h.keep.size) hm; omega)), h.row, hc⟩
/-- A block that is none of the asking's stays. -/
theorem AskPost.blk {w w' : World} {X X' : Nat → Prop} {ab eb ib mb ob : Nat} {E : Env} {s' : PS} {wv wv' : Value} (h : AskPost w X ab eb ib mb ob E wv s' w' X' wv') {b : Nat} {o : Obj} (hb : w.heap[b]? = some o) (hn : ¬ MSet ab ob mb wv b) : w'.heap[b]? = some o := h.keep.blk hb hn
theorem AskPost.notM {w w' : World} {X X' : Nat → Prop} {ab eb ib mb ob : Nat} {E : Env} {s' : PS} {wv wv' : Value} (h : AskPost w X ab eb ib mb ob E wv s' w' X' wv') {b : Nat} (hb : b < w.heap.size) (hn : ¬ MSet ab ob mb wv b) : ¬ MSet ab ob mb wv' b := by
  intro hm
  rcases hm with h1 | h1 | h1 | h1
  · exact hn (.inl h1)
  · exact hn (.inr (.inl h1))
  · exact hn (.inr (.inr (.inl h1)))
  · rcases h.row with hr | ⟨c, hc, hlt⟩
    · exact hn (.inr (.inr (.inr (h1.trans hr))))
    · rw [hc] at h1; injection h1 with h1; omega
/-- The ending of a call that may stop by a panic of the package's own. -/
def EndAs {α : Type} (val : α → Value → Prop) : Except Int α → Ending → Prop
  | .ok x, e => ∃ v, val x v ∧ e = .returned v
  | .error c, e => e = .panicked [{ v := .iface 90 (.int .i64 c), recovered := false }]
def KeptV (x : Int × Int) (v : Value) : Prop := ∃ u ck, v = .agg #[.int .i64 x.1, u, .int .i64 ck, .int .i64 x.2] ∧ u.oneCell' = true
/-- What a call that asks comes to: the model's state, and the model's answer. -/
def Asks (w : World) (X : Nat → Prop) (ab eb ib mb ob : Nat) (E : Env) (on : List Int) (wv : Value) {α : Type} (val : α → Value → Prop) (r : PS × Except Int α) (e : Ending) (w' : World) : Prop :=
  ∃ X' wv', AskPost w X ab eb ib mb ob E wv r.1 w' X' wv' ∧ (∀ x, r.2 = .ok x → OpenX w' ob on) ∧ EndAs val r.2 e
/-- THE CONTRACT OF ASK, at the model's function 'ask' while 'on' are open. -/
def AskOK (E : Env) (on : List Int) (ask : AskFn) : Prop :=
  ∀ (w : World) (X : Nat → Prop) (ab eb ib mb ob : Nat) (s : PS) (wv : Value) (q : Int), AskC w X ab eb ib mb ob E s wv → OpenX w ob on → PInv E on s → InQ E q →
    Calls Tryd.prog 40 #[.pointer (some ⟨ab, 0, none⟩), .int .i64 q] w (Asks w X ab eb ib mb ob E on wv KeptV (ask s q))

/-- stale's closure. -/
theorem stale1_any {E : Env} {on : List Int} {ask : AskFn} (IH : AskOK E on ask) (w : World) (X : Nat → Prop) (ab eb ib mb ob ga gk : Nat) (s : PS) (wv : Value) (q ck : Int) (v0 v1 v3 : Value)
    (hc : AskC w X ab eb ib mb ob E s wv) (ho : OpenX w ob on) (hi : PInv E on s) (hq : InQ E q)
    (hga : w.heap[ga]? = some (.cells #[.pointer (some ⟨ab, 0, none⟩)] 86 (0, 0))) (hgk : w.heap[gk]? = some (.cells #[v0, v1, .int .i64 ck, v3] 85 (0, 0))) (na : ¬ MSet ab ob mb wv ga) (nk : ¬ MSet ab ob mb wv gk) :
    Calls Tryd.prog 65 #[.int .i64 q, .pointer (some ⟨ga, 0, none⟩), .pointer (some ⟨gk, 0, none⟩)] w
      (Asks w X ab eb ib mb ob E on wv (fun b v => v = .bool b) (match ask s q with | (s1, .error e) => (s1, .error e) | (s1, .ok (_, ch)) => (s1, .ok (decide (ck < ch))))) := by
  have ea := blk_cell hga 0
  have ek := blk_cell hgk 2
  simp only [List.getElem?_toArray, List.getElem?_cons_zero, List.getElem?_cons_succ] at ea ek
  have H := IH w.drew X ab eb ib mb ob s wv q (hc.keep (Keeps.refl Nob w).drew (fun _ _ h => h)) (ho.keep (Keeps.refl Nob w).drew id) hi hq
  rcases hr : ask s q with ⟨s1, r1⟩
  rw [hr] at H
  have Hga := Lib.hid hga
  have Hgk := Lib.hid hgk
  have HH := Lib.hid H
  have Ho := Lib.hid ho
  have Hc := Lib.hid hc
  have Hi := Lib.hid hi
  clear H hr hga hgk ho hc hi
  cases r1 with
  | error x =>
    go_enter Tryd.func65, Tryd.ntmps65
    go_wp2_with fail
    refine wp_region_perm [(0, true), (1, true), (4, true), (5, true), (2, false), (3, true), (6, true), (7, true)] (fun w' => w'.cell? ⟨ga, 0, none⟩ = some (.pointer (some ⟨ab, 0, none⟩)) ∧ w'.cell? ⟨gk, 2, none⟩ = some (.int .i64 ck)) rfl (by kernel_rfl) (by kernel_rfl) (by decide) (fun c a d v w h => by cases d <;> exact h) ⟨ea, ek⟩ ?_
    refine perm_q (v := ?v1_0) (some 5) rfl rfl rfl ?q1_0 ?h1_0; (case q1_0 => (intro w' hS; obtain ⟨s1, s2⟩ := hS; first | (go_simp; done) | (go_simp; rfl))); (try simp only [Act.put, List.setIfInBounds_toArray, List.set_cons_zero, List.set_cons_succ])
    refine perm_q (v := ?v1_1) (some 6) rfl rfl rfl ?q1_1 ?h1_1; (case q1_1 => (intro w' hS; obtain ⟨s1, s2⟩ := hS; first | (go_simp; done) | (go_simp; rfl))); (try simp only [Act.put, List.setIfInBounds_toArray, List.set_cons_zero, List.set_cons_succ])
    refine perm_q (v := ?v1_4) (some 9) rfl rfl rfl ?q1_4 ?h1_4; (case q1_4 => (intro w' hS; obtain ⟨s1, s2⟩ := hS; first | (go_simp; done) | (go_simp; rfl))); (try simp only [Act.put, List.setIfInBounds_toArray, List.set_cons_zero, List.set_cons_succ])
    refine perm_q (v := ?v1_5) (some 10) rfl rfl rfl ?q1_5 ?h1_5; (case q1_5 => (intro w' hS; obtain ⟨s1, s2⟩ := hS; first | (go_simp; done) | (go_simp; rfl))); (try simp only [Act.put, List.setIfInBounds_toArray, List.set_cons_zero, List.set_cons_succ])
    refine perm_e rfl ?_   -- 2: call F40(t5, t6)
    go_wp2_with (go_at_call 40; go_must (refine HH.out.mono ?_; rintro e w1 ⟨X', wv', hp, _, he⟩; simp only [EndAs] at he; subst he))
    refine ⟨rfl, X', wv', ⟨hp.xx, ?_, hp.row, hp.core⟩, ?_, rfl⟩
    · exact (Keeps.refl _ w).drew.trans hp.keep (fun _ _ h => h)
    · exact fun x h => by cases h
  | ok x =>
    obtain ⟨v, ch⟩ := x
    go_enter Tryd.func65, Tryd.ntmps65
    go_wp2_with fail
    refine wp_region_perm [(0, true), (1, true), (4, true), (5, true), (2, false), (3, true), (6, true), (7, true)] (fun w' => w'.cell? ⟨ga, 0, none⟩ = some (.pointer (some ⟨ab, 0, none⟩)) ∧ w'.cell? ⟨gk, 2, none⟩ = some (.int .i64 ck)) rfl (by kernel_rfl) (by kernel_rfl) (by decide) (fun c a d v w h => by cases d <;> exact h) ⟨ea, ek⟩ ?_
    refine perm_q (v := ?v2_0) (some 5) rfl rfl rfl ?q2_0 ?h2_0; (case q2_0 => (intro w' hS; obtain ⟨s1, s2⟩ := hS; first | (go_simp; done) | (go_simp; rfl))); (try simp only [Act.put, List.setIfInBounds_toArray, List.set_cons_zero, List.set_cons_succ])
    refine perm_q (v := ?v2_1) (some 6) rfl rfl rfl ?q2_1 ?h2_1; (case q2_1 => (intro w' hS; obtain ⟨s1, s2⟩ := hS; first | (go_simp; done) | (go_simp; rfl))); (try simp only [Act.put, List.setIfInBounds_toArray, List.set_cons_zero, List.set_cons_succ])
    refine perm_q (v := ?v2_4) (some 9) rfl rfl rfl ?q2_4 ?h2_4; (case q2_4 => (intro w' hS; obtain ⟨s1, s2⟩ := hS; first | (go_simp; done) | (go_simp; rfl))); (try simp only [Act.put, List.setIfInBounds_toArray, List.set_cons_zero, List.set_cons_succ])
    refine perm_q (v := ?v2_5) (some 10) rfl rfl rfl ?q2_5 ?h2_5; (case q2_5 => (intro w' hS; obtain ⟨s1, s2⟩ := hS; first | (go_simp; done) | (go_simp; rfl))); (try simp only [Act.put, List.setIfInBounds_toArray, List.set_cons_zero, List.set_cons_succ])
    refine perm_e rfl ?_   -- 2: call F40(t5, t6)
    go_wp2_with (go_at_call 40; go_must (refine HH.out.mono ?_; rintro e w1 ⟨X', wv', hp, ho', he⟩; simp only [EndAs, KeptV] at he; obtain ⟨_, ⟨u, ck', rfl, _⟩, rfl⟩ := he))
    refine ⟨⟨?_, ?_⟩, ?_⟩
    · exact (blk_cell (hp.blk Hga.out na) 0).trans rfl
    · exact (blk_cell (hp.blk Hgk.out nk) 2).trans rfl
    refine perm_q (v := ?v2_3) (some 8) rfl rfl rfl ?q2_3 ?h2_3; (case q2_3 => (intro w' hS; obtain ⟨s1, s2⟩ := hS; first | (go_simp; done) | (go_simp; rfl))); (try simp only [Act.put, List.setIfInBounds_toArray, List.set_cons_zero, List.set_cons_succ])
    refine perm_q (v := ?v2_6) (some 11) rfl rfl rfl ?q2_6 ?h2_6; (case q2_6 => (intro w' hS; obtain ⟨s1, s2⟩ := hS; first | (go_simp; done) | (go_simp; rfl))); (try simp only [Act.put, List.setIfInBounds_toArray, List.set_cons_zero, List.set_cons_succ])
    refine perm_q (v := ?v2_7) (some 4) rfl rfl rfl ?q2_7 ?h2_7; (case q2_7 => (intro w' hS; obtain ⟨s1, s2⟩ := hS; first | (go_simp; done) | (go_simp; rfl))); (try simp only [Act.put, List.setIfInBounds_toArray, List.set_cons_zero, List.set_cons_succ])
    refine perm_nil ?_
    go_wp2
    go_ret
    exact ⟨X', wv', ⟨hp.xx, (Keeps.refl _ w).drew.trans hp.keep (fun _ _ h => h), hp.row, hp.core⟩, fun _ _ => ho' _ rfl, _, rfl, rfl⟩

theorem drop_cons {xs : List Int} {k : Nat} (h : k < xs.length) : xs.drop k = xs.getD k 0 :: xs.drop (k + 1) := by
  rw [List.drop_eq_getElem_cons h]
  simp [List.getD_eq_getElem?_getD, h]
theorem getD_mem {xs : List Int} {k : Nat} (h : k < xs.length) : xs.getD k 0 ∈ xs := by
  rw [List.getD_eq_getElem?_getD, List.getElem?_eq_getElem h]; exact List.getElem_mem h
theorem AskPost.ask {w w' : World} {X X' : Nat → Prop} {ab eb ib mb ob : Nat} {E : Env} {s' : PS} {wv wv' : Value} (h : AskPost w X ab eb ib mb ob E wv s' w' X' wv') {v : Value} {xs : List Int} (hx : IntsX w X v xs) (hn : ∀ k, MSet ab ob mb wv k → ¬ X k) : IntsX w' X' v xs :=
  hx.keep h.keep (fun b _ hb hm => hn b hm hb) (fun b hb hX => (h.xx b hb).2 hX)
/-- slices.IndexFunc over what a kept result asked. -/
theorem indexStale {E : Env} {on : List Int} {ask : AskFn} (IH : AskOK E on ask) (hG : QM.Good E on ask) (w : World) (X : Nat → Prop) (ab eb ib mb ob ga gk : Nat) (s : PS) (wv : Value) (ck : Int) (v0 v1 v3 : Value) (sv : Value) (xs : List Int)
    (hc : AskC w X ab eb ib mb ob E s wv) (ho : OpenX w ob on) (hi : PInv E on s) (hq : ∀ q ∈ xs, InQ E q) (hx : IntsX w X sv xs) (hl : xs.length ≤ 12)
    (hga : w.heap[ga]? = some (.cells #[.pointer (some ⟨ab, 0, none⟩)] 86 (0, 0))) (hgk : w.heap[gk]? = some (.cells #[v0, v1, .int .i64 ck, v3] 85 (0, 0))) (na : ¬ MSet ab ob mb wv ga) (nk : ¬ MSet ab ob mb wv gk) :
    Calls Tryd.prog 68 #[sv, .func (.func 65) #[] #[.pointer (some ⟨ga, 0, none⟩), .pointer (some ⟨gk, 0, none⟩)]] w
      (Asks w X ab eb ib mb ob E on wv (fun b v => ∃ n : Int, v = .int .i64 n ∧ b = decide (0 ≤ n)) (staleF ask ck s xs)) := by
  obtain ⟨A, c, rfl, hcc, hcell⟩ := id hx
  have Hx := Lib.hid hx
  have Hcell := Lib.hid hcell
  have Hga := Lib.hid hga
  have Hgk := Lib.hid hgk
  have Ho := Lib.hid ho
  have Hc := Lib.hid hc
  have Hi := Lib.hid hi
  have Hq := Lib.hid hq
  clear hx hcell hga hgk ho hc hi hq
  have la := blk_lt Hga.out
  have lk := blk_lt Hgk.out
  go_enter Tryd.func68, Tryd.ntmps68
  go_wp2
  go_loopw [8] (fun v wr => ∃ (k : Nat) (sk : PS) (Xk : Nat → Prop) (wvk : Value), v = .int .i64 k ∧ k ≤ xs.length ∧ Hid (AskPost w X ab eb ib mb ob E wv sk wr Xk wvk) ∧ Hid (OpenX wr ob on) ∧ Hid (PInv E on sk) ∧ Hid (staleF ask ck sk (xs.drop k) = staleF ask ck s xs))
    (fun v _ => xs.length - (intOf v).toNat)
  case atStart => exact ⟨0, s, X, wv, rfl, Nat.zero_le _, AskPost.refl Hc.out, Ho.out, Hi.out, rfl⟩
  case round =>
    obtain ⟨k, sk, Xk, wvk, rfl, hk, hp, hok, hik, hst⟩ := hrel
    by_cases hlt : k < xs.length
    · have hd := Lib.hid (drop_cons hlt)
      obtain ⟨b, o, rfl, _, hcw⟩ := Hcell.out k hlt
      have hrun := stale1_any IH wr Xk ab eb ib mb ob ga gk sk wvk (xs.getD k 0) ck v0 v1 v3 hp.out.core hok.out hik.out (Hq.out _ (getD_mem hlt)) (hp.out.blk Hga.out na) (hp.out.blk Hgk.out nk) (hp.out.notM la na) (hp.out.notM lk nk)
      have hcw' : wr.cell? ⟨b, o + k, none⟩ = some (.int .i64 (xs.getD k 0)) := by
        obtain ⟨A', c', h1, _, h3⟩ := hp.out.ask Hx.out Hc.out.notX
        injection h1 with h1 _ _
        obtain ⟨b', o', h4, _, h5⟩ := h3 k hlt
        rw [← h1] at h4
        injection h4 with h4
        injection h4 with h4 h6
        subst h4; subst h6
        exact h5
      have hgood := hG sk (xs.getD k 0) hik.out (Hq.out _ (getD_mem hlt))
      have hstep : staleF ask ck sk (xs.drop k) = match ask sk (xs.getD k 0) with | (s1, .error e) => (s1, .error e) | (s1, .ok (_, ch)) => if ck < ch then (s1, .ok true) else staleF ask ck s1 (xs.drop (k + 1)) := by
        rw [hd.out]; rfl
      rcases hr : ask sk (xs.getD k 0) with ⟨s1, r1⟩
      rw [hr] at hrun hgood hstep
      have Hrun := Lib.hid hrun
      have Hgood := Lib.hid hgood
      have Hstep := Lib.hid hstep
      clear hrun hgood hstep hr hcw
      generalize xs.getD k 0 = q at *
      cases r1 with
      | error x =>
        go_wp2_with (go_at_call 65; go_must (refine Hrun.out.mono ?_; rintro e w1 ⟨X', wv', hp', _, he⟩; simp only [EndAs] at he; subst he))
        have hfin : staleF ask ck s xs = (s1, .error x) := by rw [← hst.out, Hstep.out]
        rw [hfin]
        exact ⟨rfl, X', wv', hp.out.trans hp', fun _ h => (by cases h), rfl⟩
      | ok y =>
        obtain ⟨v, ch⟩ := y
        dsimp only at Hstep Hrun
        by_cases hch : ck < ch
        · have hdec : decide (ck < ch) = true := decide_eq_true hch
          have Hs2 : Hid (staleF ask ck s xs = (s1, .ok true)) := Lib.hid (by rw [← hst.out, Hstep.out, if_pos hch])
          rw [hdec] at Hrun
          clear Hstep hdec hch
          go_wp2_with (go_at_call 65; go_must (refine Hrun.out.mono ?_; rintro e w1 ⟨X', wv', hp', ho', he⟩; simp only [EndAs] at he; obtain ⟨_, rfl, rfl⟩ := he))
          go_ret
          rw [Hs2.out]
          exact ⟨X', wv', hp.out.trans hp', fun _ _ => ho' _ rfl, .int .i64 (k : Int), ⟨k, rfl, by simp⟩, rfl⟩
        · have hdec : decide (ck < ch) = false := decide_eq_false hch
          have Hs2 : Hid (staleF ask ck s1 (xs.drop (k + 1)) = staleF ask ck s xs) := Lib.hid (by rw [← hst.out, Hstep.out, if_neg hch])
          rw [hdec] at Hrun
          clear Hstep hdec hch
          go_wp2_with (go_at_call 65; go_must (refine Hrun.out.mono ?_; rintro e w1 ⟨X', wv', hp', ho', he⟩; simp only [EndAs] at he; obtain ⟨_, rfl, rfl⟩ := he))
          go_roundw
          case rel => exact ⟨k + 1, s1, X', wv', by go_num, by omega, hp.out.trans hp', ho' _ rfl, Hgood.out.1.inv, Hs2⟩
          case measure => simp [intOf]; omega
    · have hk' : k = xs.length := by omega
      subst hk'
      have Hs2 : Hid (staleF ask ck s xs = (sk, .ok false)) := Lib.hid (by rw [← hst.out, List.drop_length]; rfl)
      go_wp2
      go_ret
      rw [Hs2.out]
      exact ⟨Xk, wvk, hp.out, fun _ _ => hok.out, .int .i64 (-1), ⟨-1, rfl, rfl⟩, rfl⟩
/-- slices.ContainsFunc. -/
theorem containsStale {E : Env} {on : List Int} {ask : AskFn} (IH : AskOK E on ask) (hG : QM.Good E on ask) (w : World) (X : Nat → Prop) (ab eb ib mb ob ga gk : Nat) (s : PS) (wv : Value) (ck : Int) (v0 v1 v3 : Value) (sv : Value) (xs : List Int)
    (hc : AskC w X ab eb ib mb ob E s wv) (ho : OpenX w ob on) (hi : PInv E on s) (hq : ∀ q ∈ xs, InQ E q) (hx : IntsX w X sv xs) (hl : xs.length ≤ 12)
    (hga : w.heap[ga]? = some (.cells #[.pointer (some ⟨ab, 0, none⟩)] 86 (0, 0))) (hgk : w.heap[gk]? = some (.cells #[v0, v1, .int .i64 ck, v3] 85 (0, 0))) (na : ¬ MSet ab ob mb wv ga) (nk : ¬ MSet ab ob mb wv gk) :
    Calls Tryd.prog 58 #[sv, .func (.func 65) #[] #[.pointer (some ⟨ga, 0, none⟩), .pointer (some ⟨gk, 0, none⟩)]] w
      (Asks w X ab eb ib mb ob E on wv (fun b v => v = .bool b) (staleF ask ck s xs)) := by
  have Hrun := Lib.hid (indexStale IH hG w X ab eb ib mb ob ga gk s wv ck v0 v1 v3 sv xs hc ho hi hq hx hl hga hgk na nk)
  clear hx hga hgk ho hc hi hq
  rcases hr : staleF ask ck s xs with ⟨s1, r1⟩
  rw [hr] at Hrun
  clear hr
  cases r1 with
  | error x =>
    go_enter Tryd.func58, Tryd.ntmps58
    go_wp2_with (go_at_call 68; go_must (refine Hrun.out.mono ?_; rintro e w1 ⟨X', wv', hp', _, he⟩; simp only [EndAs] at he; subst he))
    exact ⟨rfl, X', wv', hp', fun _ h => (by cases h), rfl⟩
  | ok b =>
    go_enter Tryd.func58, Tryd.ntmps58
    go_wp2_with (go_at_call 68; go_must (refine Hrun.out.mono ?_; rintro e w1 ⟨X', wv', hp', ho', he⟩; simp only [EndAs] at he; obtain ⟨_, ⟨n, rfl, rfl⟩, rfl⟩ := he))
    go_ret
    exact ⟨X', wv', hp', fun _ _ => ho' _ rfl, _, rfl, rfl⟩
/-- stale. -/
theorem stale_any {E : Env} {on : List Int} {ask : AskFn} (IH : AskOK E on ask) (hG : QM.Good E on ask) (w : World) (X : Nat → Prop) (ab eb ib mb ob : Nat) (s : PS) (wv : Value) (k : KeptR) (u : Value)
    (hc : AskC w X ab eb ib mb ob E s wv) (ho : OpenX w ob on) (hi : PInv E on s) (hk : KOk E k) (hx : IntsX w X u k.asked) :
    Calls Tryd.prog 56 #[.pointer (some ⟨ab, 0, none⟩), .agg #[.int .i64 k.value, u, .int .i64 k.checked, .int .i64 k.changed]] w
      (Asks w X ab eb ib mb ob E on wv (fun b v => v = .bool b) (staleF ask k.checked s k.asked)) := by
  obtain ⟨uA, uc, hu, _, _⟩ := id hx
  have Hx := Lib.hid hx
  have Ho := Lib.hid ho
  have Hc := Lib.hid hc
  have Hi := Lib.hid hi
  have Hk := Lib.hid hk
  have Hu := Lib.hid hu
  clear hx ho hc hi hk hu
  go_enter Tryd.func56, Tryd.ntmps56
  go_wp2_with (first
    | ((with_reducible refine at_dst (N := 2) rfl ?_); go_must (refine ev_box (cs := #[.pointer (some ⟨ab, 0, none⟩)]) rfl rfl rfl ?_; intro g1 w1 hg1 hl1 hb1 hk1); have Hb1 := Lib.hid hb1; clear hb1; (try simp only [Act.put, List.setIfInBounds_toArray, List.set_cons_zero, List.set_cons_succ]))
    | ((with_reducible refine at_dst (N := 3) rfl ?_); go_must (refine ev_box (cs := #[.int .i64 k.value, u, .int .i64 k.checked, .int .i64 k.changed]) rfl rfl rfl ?_; intro g2 w2 hg2 hl2 hb2 hk2); have Hb2 := Lib.hid hb2; have f1 := blk_cell hb2 1; clear hb2; (try simp only [Act.put, List.setIfInBounds_toArray, List.set_cons_zero, List.set_cons_succ])))
  have hkk : Keeps Nob w w2 := hk1.trans hk2 (fun _ _ h => h)
  have hn := Hc.out.lt
  have hs1 := hk1.size
  have hrun := containsStale IH hG w2 X ab eb ib mb ob g1 g2 s wv k.checked _ _ _ u k.asked (Hc.out.keep hkk (fun _ _ h => h)) (Ho.out.keep hkk id) Hi.out Hk.out.asked
    (Hx.out.keep hkk (fun _ _ _ h => h) (fun _ _ h => h)) Hk.out.alen (hk2.blk Hb1.out id) Hb2.out (fun h => by have := hn _ h; omega) (fun h => by have := hn _ h; omega)
  rcases hr : staleF ask k.checked s k.asked with ⟨s1, r1⟩
  rw [hr] at hrun
  have Hr := Lib.hid hr
  clear hr
  cases r1 with
  | error x =>
    refine hrun.mono ?_
    rintro e w3 ⟨X', wv', hp', _, he⟩
    simp only [EndAs] at he
    subst he
    refine ⟨rfl, ?_⟩
    rw [Hr.out]
    exact ⟨X', wv', AskPost.after (M := Nob) hkk hp' rfl, fun _ h => (by cases h), rfl⟩
  | ok b =>
    refine hrun.mono ?_
    rintro e w3 ⟨X', wv', hp', ho', he⟩
    simp only [EndAs] at he
    obtain ⟨_, rfl, rfl⟩ := he
    go_wp2
    go_ret
    rw [Hr.out]
    exact ⟨X', wv', AskPost.after (M := Nob) hkk hp' rfl, fun _ _ => ho' _ rfl, _, rfl, rfl⟩
end Go.Proofs.QW

/-
  Slices that are made, built and appended to, as steps of a walk. No condition.
-/
namespace Go.Proofs.KL
open Go.RowKit
section
variable {P : Program} {ops : Array Oper} {rest : List Oper} {o : Oper} {a : Act} {Q : Exit → Act → World → Prop}
/-- A slice over a new block. -/
theorem ev_slice {W : World} (hgd : o.guard = none) {cs : Array Value} {t : TypeId} {n c : Nat}
    (hrun : (execOp a.eval o).run P W = .ok (.value (.slice (some ⟨W.heap.size, 0, none⟩) n c)) (W.alloc (.cells cs t (0, 0))))
    (h : ∀ g w1, W.heap.size ≤ g → g < w1.heap.size → w1.heap[g]? = some (.cells cs t (0, 0)) → Keeps Nob W w1 → wpList P ops Q rest (a.put o.dst (.slice (some ⟨g, 0, none⟩) n c)) w1) : wpList P ops Q (o :: rest) a W :=
  ev_run hgd hrun (h _ _ (Nat.le_refl _) (by simp) (blk_new W _) ((Keeps.refl _ _).alloc _))
/-- A new map. -/
theorem ev_makeMap {W : World} (hgd : o.guard = none) {t : TypeId} (ho : o.op = .makeMap t none)
    (h : ∀ g w1, W.heap.size ≤ g → g < w1.heap.size → w1.heap[g]? = some (.map #[] 0) → Keeps Nob W w1 → wpList P ops Q rest (a.put o.dst (.map (some g))) w1) : wpList P ops Q (o :: rest) a W := by
  refine ev_run hgd (w1 := W.alloc (.map #[] 0)) (v := .map (some W.heap.size)) ?_ (h _ _ (Nat.le_refl _) (by simp) (blk_new W _) ((Keeps.refl _ _).alloc _))
  simp [execOp, ho, Instr.makeMap, newObj]
  rfl
theorem madeCells_get {z : Value} {sz : Nat} (hz : z.cells.size = sz) (hs : 0 < sz) {n i : Nat} (hi : i < n) : (madeCells z.cells n)[i]? = some (z.cells[i % sz]'(by rw [hz]; exact Nat.mod_lt _ hs)) := by
  unfold madeCells
  have : i % z.cells.size < z.cells.size := Nat.mod_lt _ (by omega)
  simp [hi, hz, getElem!_pos z.cells (i % sz) (by rw [hz]; exact Nat.mod_lt _ hs)]
/-- make([]T, n). -/
theorem ev_makeSlice {W : World} (hgd : o.guard = none) {t e : TypeId} {x y : Operand} (ho : o.op = .makeSlice t x y) (n : Nat) (hx : a.eval x = .int .i64 n) (hy : a.eval y = .int .i64 n) (ht : P.underlying t = some (.slice e))
    {z : Value} {sz bytes : Nat} (hinf : (P.info? e).map (fun i => (i.zero, i.size, i.bytes)) = some (some z, sz, bytes)) (_hz : z.cells.size = sz) (_hs : 0 < sz) (hl : n * bytes ≤ 281474976710656) (hn : n ≤ 281474976710656)
    (h : ∀ g w1, W.heap.size ≤ g → g < w1.heap.size → w1.heap[g]? = some (.cells (madeCells z.cells (n * sz)) e (0, 0)) → Keeps Nob W w1 → wpList P ops Q rest (a.put o.dst (.slice (some ⟨g, 0, none⟩) n n)) w1) : wpList P ops Q (o :: rest) a W := by
  obtain ⟨i0, hi, hzz⟩ := Option.map_eq_some_iff.1 hinf
  simp only [Prod.mk.injEq] at hzz
  obtain ⟨hz0, hz1, hz2⟩ := hzz
  have hr := run_make (P := P) W t e i0 z ht hi hz0 .i64 .i64 (n : Int) (n : Int) (by omega) (by omega)
    (by
      have h3 : ((i0.bytes * n : Nat) : Int) ≤ 281474976710656 := by rw [hz2, Nat.mul_comm]; omega
      rwa [Int.natCast_mul] at h3) (by omega)
  simp only [Int.toNat_natCast] at hr
  rw [hz1] at hr
  refine ev_slice hgd (cs := madeCells z.cells (n * sz)) (t := e) ?_ h
  simp [execOp, ho, hx, hy, hr]
/-- append(s, x...), s a row of one's own, x a slice that is read. -/
theorem ev_append {W : World} (hgd : o.guard = none) {s x : Operand} {t e : TypeId} (ho : o.op = .call { callee := .builtin .append, args := #[s, x], argTypes := #[t, t] }) (ht : P.underlying t = some (.slice e))
    {z : Value} {sz bytes : Nat} (hinf : (P.info? e).map (fun i => (i.zero, i.size, i.bytes)) = some (some z, sz, bytes)) (hz : z.cells.size = sz) (hs0 : 0 < sz)
    {base : Nat} {v : Value} {n : Nat} {xs : List Value} (hs : a.eval s = v) (hown : W.ownsRow base e sz v n xs) {A : Option Addr} {m c : Nat} {news : List Value} (hx : a.eval x = .slice A m c) (hl : news.length = m * sz)
    (hnews : 0 < m → ∃ ad, A = some ad ∧ ∀ j u, news[j]? = some u → W.cell? (ad.add j) = some u) (h1 : ∀ u ∈ news, u.oneCell' = true) (hbytes : (n + m) * bytes ≤ 140737488355328) (hb0 : 0 < bytes) (hbase : base ≤ W.heap.size)
    (h : ∀ v' w1, w1.ownsRow base e sz v' (n + m) (xs ++ news) → Keeps (fun k => some k = v.ownBlock) W w1 → (v'.ownBlock = v.ownBlock ∨ ∃ b, v'.ownBlock = some b ∧ W.heap.size ≤ b) → (0 < m → ∃ g cap, v' = .slice (some ⟨g, 0, none⟩) (n + m) cap) → wpList P ops Q rest (a.put o.dst v') w1) : wpList P ops Q (o :: rest) a W := by
  obtain ⟨i0, hi, hzz⟩ := Option.map_eq_some_iff.1 hinf
  simp only [Prod.mk.injEq] at hzz
  obtain ⟨hz0, hz1, hz2⟩ := hzz
  have hnm : n + m ≤ 140737488355328 := Nat.le_trans (Nat.le_mul_of_pos_right _ hb0) hbytes
  rcases Nat.eq_zero_or_pos m with hm | hm
  · subst hm
    obtain rfl : news = [] := List.eq_nil_of_length_eq_zero (by omega)
    have hrun : (Builtin.append_ #[t, t] o.type #[v, .slice A 0 c]).run P W = .ok v W := by
      rcases hown.2 with ⟨rfl, hn⟩ | ⟨g, cap, cur, rfl, _, _, hnc, _⟩
      · cases A <;> simp [Builtin.append_, run_underlying ht, sizeOf, typeInfo, hi, Builtin.lenOf, Builtin.firstCells, loadCells, loadCellsFrom]
      · cases A <;> simp [Builtin.append_, run_underlying ht, sizeOf, typeInfo, hi, Builtin.lenOf, Builtin.firstCells, loadCells, loadCellsFrom, hnc, storeCells]
    refine ev_run hgd (v := v) (w1 := W) ?_ (h v W (by simpa using hown) (Keeps.refl _ _) (.inl rfl) (fun h => absurd h (by omega)))
    simp [execOp, ho, resolve, invoke, builtin, hs, hx, hrun]
  · obtain ⟨ad, rfl, hnw⟩ := hnews hm
    obtain ⟨g, cap, w', hrun, ho', hg, hat, hlt⟩ := run_append_lies (P := P) (w := W) t o.type base e i0 z sz bytes ht hi hz0 hz1 hz2 hz hs0 v n xs hown ad m c news hl hnw h1 hm (by unfold maxLen; omega) hbytes hbase _ rfl
    refine ev_run hgd (v := .slice (some ⟨g, 0, none⟩) (n + m) cap) (w1 := w') ?_ (h _ _ ho' ⟨hg.os, hg.tape, hg.output, hg.size, fun k hk hn => hg.block k hk hn⟩ ?_ (fun _ => ⟨g, cap, rfl⟩))
    · simp [execOp, ho, resolve, invoke, builtin, hs, hx, hrun]
    · rcases hat with h2 | h2
      · exact .inl h2.symm
      · exact .inr ⟨g, rfl, by omega⟩
end
end Go.Proofs.KL

/-
  Working a question out, in memory: what is asked is written down, and each question is asked (the closure of work). Condition: nested askings come to the model's.
-/
namespace Go.Proofs.QW
open Go.RowKit Go.Proofs.KL Go.Proofs.QM
set_option maxRecDepth 100000
set_option linter.unusedSimpArgs false
set_option linter.unusedVariables false

/-- The blocks that an asking's facts speak of. -/
def FP (ab eb ib mb ob : Nat) (wv : Value) (X : Nat → Prop) : Nat → Prop := fun k => MSet ab ob mb wv k ∨ k = eb ∨ k = ib ∨ X k
theorem AskC.keepF {M : Nat → Prop} {w w' : World} {X : Nat → Prop} {ab eb ib mb ob : Nat} {E : Env} {s : PS} {wv : Value} (h : AskC w X ab eb ib mb ob E s wv) (hk : Keeps M w w') (hM : ∀ k, k < w.heap.size → M k → ¬ FP ab eb ib mb ob wv X k) : AskC w' X ab eb ib mb ob E s wv := by
  obtain ⟨⟨rv, c, hb, _⟩, ⟨cs, hib, _⟩, ⟨es, cl, hmb, _⟩, _, _, _⟩ := id h.eng
  obtain ⟨eo, co, ho⟩ := h.oblk
  exact ⟨hk.blk h.ablk (fun hm => hM _ (blk_lt h.ablk) hm (.inl (.inl rfl))), h.eng.keep hk (fun hm => hM _ (blk_lt hb) hm (.inr (.inl rfl))) (fun hm => hM _ (blk_lt hib) hm (.inr (.inr (.inl rfl)))) (fun hm => hM _ (blk_lt hmb) hm (.inl (.inr (.inr (.inl rfl))))) (fun b hb hx hm => hM b hb hm (.inr (.inr (.inr hx)))) (fun _ _ => Iff.rfl),
    ⟨eo, co, hk.blk ho (fun hm => hM _ (blk_lt ho) hm (.inl (.inr (.inl rfl))))⟩, ownsRow_keep h.own hk (fun b hb hm => hM b (own_lt h.own b hb).1 hm (.inl (.inr (.inr (.inr hb.symm))))), h.xa, h.xo, h.xw, h.mo, fun k hx => Nat.lt_of_lt_of_le (h.xl k hx) hk.size⟩
theorem AskPost.notF {w w' : World} {X X' : Nat → Prop} {ab eb ib mb ob : Nat} {E : Env} {s' : PS} {wv wv' : Value} (h : AskPost w X ab eb ib mb ob E wv s' w' X' wv') {b : Nat} (hb : b < w.heap.size) (hn : ¬ FP ab eb ib mb ob wv X b) : ¬ FP ab eb ib mb ob wv' X' b := by
  intro hf
  rcases hf with hf | hf | hf | hf
  · exact h.notM hb (fun hm => hn (.inl hm)) hf
  · exact hn (.inr (.inl hf))
  · exact hn (.inr (.inr (.inl hf)))
  · exact hn (.inr (.inr (.inr ((h.xx b hb).1 hf))))
/-- A working out as it lies: the asking, the kept result that is being made (block gk), and the row of what was asked. -/
structure WW (w : World) (X : Nat → Prop) (ab eb ib mb ob ga gk : Nat) (E : Env) (s : PS) (wv : Value) (asked : List Int) (av : Value) : Prop where
  core : AskC w X ab eb ib mb ob E s wv
  hga : w.heap[ga]? = some (.cells #[.pointer (some ⟨ab, 0, none⟩)] 86 (0, 0))
  hgk : w.heap[gk]? = some (.cells #[.int .i64 0, av, .int .i64 E.rev, .int .i64 E.rev] 85 (0, 0))
  own : w.ownsRow 0 3 1 av asked.length (asked.map (Value.int .i64))
  na : ¬ FP ab eb ib mb ob wv X ga
  nk : ¬ FP ab eb ib mb ob wv X gk
  nv : ∀ b, av.ownBlock = some b → ¬ FP ab eb ib mb ob wv X b
/-- What a part of a working out may have turned. -/
structure WT (w : World) (X : Nat → Prop) (ab ob mb gk : Nat) (wv av : Value) (w' : World) (X' : Nat → Prop) (wv' av' : Value) : Prop where
  xx : ∀ b, b < w.heap.size → (X' b ↔ X b)
  keep : Keeps (fun k => MSet ab ob mb wv k ∨ k = gk ∨ some k = av.ownBlock) w w'
  row : wv'.ownBlock = wv.ownBlock ∨ ∃ b, wv'.ownBlock = some b ∧ w.heap.size ≤ b
  rowa : av'.ownBlock = av.ownBlock ∨ ∃ b, av'.ownBlock = some b ∧ w.heap.size ≤ b
theorem WT.refl (w : World) (X : Nat → Prop) (ab ob mb gk : Nat) (wv av : Value) : WT w X ab ob mb gk wv av w X wv av := ⟨fun _ _ => Iff.rfl, Keeps.refl _ _, .inl rfl, .inl rfl⟩
theorem WT.trans {w w1 w2 : World} {X X1 X2 : Nat → Prop} {ab ob mb gk : Nat} {wv wv1 wv2 av av1 av2 : Value} (h : WT w X ab ob mb gk wv av w1 X1 wv1 av1) (k : WT w1 X1 ab ob mb gk wv1 av1 w2 X2 wv2 av2) : WT w X ab ob mb gk wv av w2 X2 wv2 av2 := by
  have hs := h.keep.size
  refine ⟨fun b hb => (k.xx b (Nat.lt_of_lt_of_le hb hs)).trans (h.xx b hb), h.keep.trans k.keep (fun i hi hm => ?_), ?_, ?_⟩
  · rcases hm with (h1 | h1 | h1 | h1) | h1 | h1
    · exact .inl (.inl h1)
    · exact .inl (.inr (.inl h1))
    · exact .inl (.inr (.inr (.inl h1)))
    · rcases h.row with hr | ⟨b, hb, hlt⟩
      · exact .inl (.inr (.inr (.inr (h1.trans hr))))
      · rw [hb] at h1; injection h1 with h1; omega
    · exact .inr (.inl h1)
    · rcases h.rowa with hr | ⟨b, hb, hlt⟩
      · exact .inr (.inr (h1.trans hr))
      · rw [hb] at h1; injection h1 with h1; omega
  · rcases k.row with hr | ⟨b, hb, hlt⟩
    · rw [hr]; exact h.row
    · exact .inr ⟨b, hb, by omega⟩
  · rcases k.rowa with hr | ⟨b, hb, hlt⟩
    · rw [hr]; exact h.rowa
    · exact .inr ⟨b, hb, by omega⟩
/-- What a call inside a working out comes to. -/
def Works (w : World) (X : Nat → Prop) (ab eb ib mb ob ga gk : Nat) (E : Env) (on : List Int) (wv av : Value) (asked : List Int) (r : PS × Except Int (Int × List Int)) (e : Ending) (w' : World) : Prop :=
  ∃ X' wv' av', WT w X ab ob mb gk wv av w' X' wv' av' ∧ AskC w' X' ab eb ib mb ob E r.1 wv' ∧
    match r.2 with
    | .ok (v, more) => WW w' X' ab eb ib mb ob ga gk E r.1 wv' (asked ++ more) av' ∧ OpenX w' ob on ∧ e = .returned (.int .i64 v)
    | .error c => e = .panicked [{ v := .iface 90 (.int .i64 c), recovered := false }]
/-- One asking inside a working out. -/
theorem WW.ask {w w' : World} {X X' : Nat → Prop} {ab eb ib mb ob ga gk : Nat} {E : Env} {s s' : PS} {wv wv' av : Value} {asked : List Int} (h : WW w X ab eb ib mb ob ga gk E s wv asked av) (hp : AskPost w X ab eb ib mb ob E wv s' w' X' wv') :
    WW w' X' ab eb ib mb ob ga gk E s' wv' asked av ∧ WT w X ab ob mb gk wv av w' X' wv' av :=
  ⟨⟨hp.core, hp.blk h.hga (fun hm => h.na (.inl hm)), hp.blk h.hgk (fun hm => h.nk (.inl hm)), ownsRow_keep h.own hp.keep (fun b hb hm => h.nv b hb (.inl hm)), hp.notF (blk_lt h.hga) h.na, hp.notF (blk_lt h.hgk) h.nk, fun b hb => hp.notF (own_lt h.own b hb).1 (h.nv b hb)⟩,
    ⟨hp.xx, hp.keep.mono (fun _ _ hm => .inl hm), hp.row, .inl rfl⟩⟩

theorem info3 : (Tryd.prog.info? 3).map (fun i => (i.zero, i.size, i.bytes)) = some (some (.int .i64 0), 1, 8) := by kernel_rfl
theorem info23 : ∃ i, Tryd.prog.info? 23 = some i ∧ i.size = 1 := by
  have h : (Tryd.prog.info? 23).map (·.size) = some 1 := by kernel_rfl
  obtain ⟨i, hi, hs⟩ := Option.map_eq_some_iff.1 h
  exact ⟨i, hi, hs⟩
theorem own_ne {w : World} {base e size n : Nat} {v : Value} {xs : List Value} (h : w.ownsRow base e size v n xs) {b t : Nat} {cs : Array Value} (hb : w.heap[b]? = some (.cells cs t (0, 0))) (ht : t ≠ e) : ¬ (some b = v.ownBlock) := by
  intro he
  obtain ⟨_, c', hc⟩ := own_lt h b he.symm
  rw [hb] at hc
  injection hc with hc
  injection hc with _ h2 _
  exact ht h2
/-- The question is written down: what the working out is then. -/
theorem WW.wrote {w w3 : World} {X : Nat → Prop} {ab eb ib mb ob ga gk : Nat} {E : Env} {s : PS} {wv av av' : Value} {asked : List Int} {q : Int} (h : WW w X ab eb ib mb ob ga gk E s wv asked av) (hk : Keeps (fun k => k = gk ∨ some k = av.ownBlock) w w3)
    (hb : w3.heap[gk]? = some (.cells #[.int .i64 0, av', .int .i64 E.rev, .int .i64 E.rev] 85 (0, 0))) (hown : w3.ownsRow 0 3 1 av' (asked.length + 1) (asked.map (Value.int .i64) ++ [.int .i64 q])) (hr : av'.ownBlock = av.ownBlock ∨ ∃ b, av'.ownBlock = some b ∧ w.heap.size ≤ b) : WW w3 X ab eb ib mb ob ga gk E s wv (asked ++ [q]) av' ∧ WT w X ab ob mb gk wv av w3 X wv av' := by
  have hc : ∀ k, k < w.heap.size → (k = gk ∨ some k = av.ownBlock) → ¬ FP ab eb ib mb ob wv X k := fun k _ hm => by
    rcases hm with rfl | hm
    · exact h.nk
    · exact h.nv k hm.symm
  have hga : ¬ (ga = gk ∨ some ga = av.ownBlock) := by
    rintro (e | e)
    · subst e
      have := h.hga.symm.trans h.hgk
      injection this with this
      injection this with _ h2 _
      exact absurd h2 (by decide)
    · exact own_ne h.own h.hga (by decide) e
  refine ⟨⟨h.core.keepF hk hc, hk.blk h.hga hga, hb, by simpa using hown, h.na, h.nk, fun b hb' => ?_⟩, ⟨fun _ _ => Iff.rfl, hk.mono (fun _ _ hm => .inr hm), .inl rfl, hr⟩⟩
  rcases hr with hr | ⟨b', hb2, hlt⟩
  · exact h.nv b (hr ▸ hb')
  · rw [hb2] at hb'; injection hb' with hb'; subst hb'
    intro hf
    obtain ⟨⟨rv, c, heb, _⟩, ⟨cs, hib, _⟩, _, _, _, _⟩ := id h.core.eng
    rcases hf with hf | hf | hf | hf
    · have := h.core.lt _ hf; omega
    · have := blk_lt heb; omega
    · have := blk_lt hib; omega
    · have := h.core.xl _ hf; omega
theorem field85_0 (a b c d : Value) (w : World) : (Instr.field 85 (.agg #[a, b, c, d]) 0).run Tryd.prog w = .ok a w := by kernel_rfl
/-- The closure of work: the question is written down, and asked. -/
theorem work1_any {E : Env} {on : List Int} {ask : AskFn} (IH : AskOK E on ask) (w : World) (X : Nat → Prop) (ab eb ib mb ob ga gk : Nat) (s : PS) (wv av : Value) (asked : List Int) (q : Int)
    (hw : WW w X ab eb ib mb ob ga gk E s wv asked av) (ho : OpenX w ob on) (hi : PInv E on s) (hq : InQ E q) (hl : asked.length ≤ 100) :
    Calls Tryd.prog 67 #[.int .i64 q, .pointer (some ⟨gk, 0, none⟩), .pointer (some ⟨ga, 0, none⟩)] w
      (Works w X ab eb ib mb ob ga gk E on wv av asked (match ask s q with | (s1, .error e) => (s1, .error e) | (s1, .ok (v, _)) => (s1, .ok (v, [q])))) := by
  generalize hRR : (match ask s q with | (s1, .error e) => (s1, .error e) | (s1, .ok (v, _)) => (s1, .ok (v, [q])) : PS × Except Int (Int × List Int)) = RR
  have HRR := Lib.hid hRR
  clear hRR
  obtain ⟨i23, hi23, hs23⟩ := info23
  have e1 := blk_cell hw.hgk 1
  simp only [List.getElem?_toArray, List.getElem?_cons_zero, List.getElem?_cons_succ] at e1
  have hnk := own_ne hw.own hw.hgk (by decide)
  have hna := own_ne hw.own hw.hga (by decide)
  have Hnk := Lib.hid hnk
  have Hna := Lib.hid hna
  clear hnk hna
  have Hw := Lib.hid hw
  have Ho := Lib.hid ho
  have Hi := Lib.hid hi
  have Hi23 := Lib.hid hi23
  have Hs23 := Lib.hid hs23
  clear hw ho hi hi23 hs23
  go_enter Tryd.func67, Tryd.ntmps67
  go_wp2_with (first
    | ((with_reducible refine at_dst (N := 8) rfl ?_); go_must (refine ev_slice (cs := #[.int .i64 q]) (t := 3) (n := 1) (c := 1) rfl (by first | (go_simp; done) | (go_simp; rfl)) ?_; intro g1 w1 hg1 hl1 hb1 hk1); have Hb1 := Lib.hid hb1; clear hb1; (try simp only [Act.put, List.setIfInBounds_toArray, List.set_cons_zero, List.set_cons_succ]))
    | ((with_reducible refine at_dst (N := 9) rfl ?_); go_must (refine ev_append rfl rfl Tryd.underlying23 info3 rfl (by decide) (base := 0) rfl (ownsRow_keep Hw.out.own hk1 (fun _ _ => id)) (news := [.int .i64 q]) rfl rfl (fun _ => ⟨_, rfl, World.news_of_block Hb1.out⟩) (by simp [Value.oneCell']) (by omega) (by decide) (Nat.zero_le _) ?_; intro av1 w2 hown2 hk2 hr2 hf2; obtain ⟨ag, acap, rfl⟩ := hf2 (by decide)); have Hown2 := Lib.hid hown2; have Hr2 := Lib.hid hr2; clear hown2 hf2 hr2; (try simp only [Act.put, List.setIfInBounds_toArray, List.set_cons_zero, List.set_cons_succ]))
    | ((with_reducible refine at_store (t := 23) rfl ?_); go_must (refine ev_store (cs' := #[.int .i64 0, .slice (some ⟨ag, 0, none⟩) (asked.length + 1) acap, .int .i64 E.rev, .int .i64 E.rev]) rfl rfl rfl rfl rfl rfl Hi23.out Hs23.out rfl (hk2.blk (hk1.blk Hw.out.hgk id) Hnk.out) (Nat.le_of_ble_eq_true rfl) rfl ?_; intro w3 hb3 hk3); have Hb3 := Lib.hid hb3; clear hb3
       have hkk : Keeps (fun k => k = gk ∨ some k = av.ownBlock) w w3 := ((hk1.mono (fun _ _ h => h.elim)).trans hk2 (fun _ _ h => .inr h)).trans hk3 (fun _ _ h => .inl h)
       have hww := Hw.out.wrote hkk Hb3.out (ownsRow_keep Hown2.out hk3 (fun b hb e => by subst e; exact own_ne Hown2.out (hk2.blk (hk1.blk Hw.out.hgk id) Hnk.out) (by decide) hb.symm)) (Hr2.out.imp id (fun ⟨b, h1, h2⟩ => ⟨b, h1, Nat.le_trans hk1.size h2⟩))
       have ea3 := (blk_cell hww.1.hga 0).trans rfl
       have ho3 : OpenX w3 ob on := Ho.out.keep hkk (fun hm => by
         rcases hm with rfl | hm
         · exact Hw.out.nk (.inl (.inr (.inl rfl)))
         · exact Hw.out.nv _ hm.symm (.inl (.inr (.inl rfl))))
       have Hww := Lib.hid hww
       have Ho3 := Lib.hid ho3
       clear hww hkk ho3))
  have hrun := IH w3 X ab eb ib mb ob s wv q Hww.out.1.core Ho3.out Hi.out hq
  rcases hr : ask s q with ⟨s1, r1⟩
  rw [hr] at hrun
  have Hr := Lib.hid hr
  clear hr
  cases r1 with
  | error x =>
    refine hrun.mono ?_
    rintro e w4 ⟨X', wv', hp', _, he⟩
    simp only [EndAs] at he
    subst he
    refine ⟨rfl, ?_⟩
    rw [← HRR.out, Hr.out]
    exact ⟨X', wv', _, Hww.out.2.trans (Hww.out.1.ask hp').2, hp'.core, rfl⟩
  | ok y =>
    obtain ⟨v, ch⟩ := y
    refine hrun.mono ?_
    rintro e w4 ⟨X', wv', hp', ho', he⟩
    simp only [EndAs, KeptV] at he
    obtain ⟨_, ⟨u, ck, rfl, _⟩, rfl⟩ := he
    have hf := field85_0
    go_wp2
    go_ret
    rw [← HRR.out, Hr.out]
    exact ⟨X', wv', _, Hww.out.2.trans (Hww.out.1.ask hp').2, hp'.core, (Hww.out.1.ask hp').1, ho' _ rfl, rfl⟩
end Go.Proofs.QW

/-
  A rule worked out, in memory: answer, kind by kind, comes to the model's 'evalR'. Condition: nested askings come to the model's.
-/
namespace Go.Proofs.QW
open Go.RowKit Go.Proofs.KL Go.Proofs.QM
set_option maxRecDepth 100000
set_option linter.unusedSimpArgs false
set_option linter.unusedVariables false

theorem WT.blk {w w' : World} {X X' : Nat → Prop} {ab ob mb gk : Nat} {wv wv' av av' : Value} (h : WT w X ab ob mb gk wv av w' X' wv' av') {b : Nat} {o : Obj} (hb : w.heap[b]? = some o) (h1 : ¬ MSet ab ob mb wv b) (h2 : b ≠ gk) (h3 : ¬ some b = av.ownBlock) : w'.heap[b]? = some o :=
  h.keep.blk hb (fun hm => hm.elim h1 (fun hm => hm.elim h2 h3))
theorem WT.ints {w w' : World} {X X' : Nat → Prop} {ab eb ib ob mb ga gk : Nat} {E : Env} {s : PS} {wv wv' av av' : Value} {asked : List Int} (h : WT w X ab ob mb gk wv av w' X' wv' av') (hw : WW w X ab eb ib mb ob ga gk E s wv asked av) {v : Value} {xs : List Int} (hx : IntsX w X v xs) : IntsX w' X' v xs :=
  hx.keep h.keep (fun b _ hb hm => by
    rcases hm with hm | hm | hm
    · exact hw.core.notX b hm hb
    · subst hm; exact hw.nk (.inr (.inr (.inr hb)))
    · exact hw.nv b hm.symm (.inr (.inr (.inr hb)))) (fun b hb hX => (h.xx b hb).2 hX)
theorem WW.keep {w w' : World} {X : Nat → Prop} {ab eb ib mb ob ga gk : Nat} {E : Env} {s : PS} {wv av : Value} {asked : List Int} (h : WW w X ab eb ib mb ob ga gk E s wv asked av) (hk : Keeps Nob w w') : WW w' X ab eb ib mb ob ga gk E s wv asked av :=
  ⟨h.core.keepF hk (fun _ _ hm => hm.elim), hk.blk h.hga id, hk.blk h.hgk id, ownsRow_keep h.own hk (fun _ _ => id), h.na, h.nk, h.nv⟩
theorem WT.after {w0 w w' : World} {X X' : Nat → Prop} {ab ob mb gk : Nat} {wv wv' av av' : Value} (hk : Keeps Nob w0 w) (h : WT w X ab ob mb gk wv av w' X' wv' av') : WT w0 X ab ob mb gk wv av w' X' wv' av' :=
  ⟨fun b hb => h.xx b (Nat.lt_of_lt_of_le hb hk.size), (hk.mono (fun _ _ hm => hm.elim)).trans h.keep (fun _ _ hm => hm), h.row.imp id (fun ⟨b, h1, h2⟩ => ⟨b, h1, Nat.le_trans hk.size h2⟩), h.rowa.imp id (fun ⟨b, h1, h2⟩ => ⟨b, h1, Nat.le_trans hk.size h2⟩)⟩
/-- A block that is none of a working out's. -/
structure Far (w : World) (ab ob mb gk : Nat) (wv av : Value) (b : Nat) : Prop where
  lt : b < w.heap.size
  h1 : ¬ MSet ab ob mb wv b
  h2 : b ≠ gk
  h3 : ¬ some b = av.ownBlock
theorem Far.step {w w' : World} {X X' : Nat → Prop} {ab ob mb gk : Nat} {wv wv' av av' : Value} {b : Nat} (h : Far w ab ob mb gk wv av b) (ht : WT w X ab ob mb gk wv av w' X' wv' av') : Far w' ab ob mb gk wv' av' b := by
  have hlt := h.lt
  refine ⟨Nat.lt_of_lt_of_le h.lt ht.keep.size, fun hm => ?_, h.h2, fun hm => ?_⟩
  · rcases hm with h1 | h1 | h1 | h1
    · exact h.h1 (.inl h1)
    · exact h.h1 (.inr (.inl h1))
    · exact h.h1 (.inr (.inr (.inl h1)))
    · rcases ht.row with hr | ⟨c, hc, hlt'⟩
      · exact h.h1 (.inr (.inr (.inr (h1.trans hr))))
      · rw [hc] at h1; injection h1 with h1; omega
  · rcases ht.rowa with hr | ⟨c, hc, hlt'⟩
    · exact h.h3 (hm.trans hr)
    · rw [hc] at hm; injection hm with hm; omega
theorem Far.blk {w w' : World} {X X' : Nat → Prop} {ab ob mb gk : Nat} {wv wv' av av' : Value} {b : Nat} (h : Far w ab ob mb gk wv av b) (ht : WT w X ab ob mb gk wv av w' X' wv' av') {o : Obj} (hb : w.heap[b]? = some o) : w'.heap[b]? = some o := ht.blk hb h.h1 h.h2 h.h3
theorem WW.far {w w1 : World} {X : Nat → Prop} {ab eb ib mb ob ga gk : Nat} {E : Env} {s : PS} {wv av : Value} {asked : List Int} (h : WW w X ab eb ib mb ob ga gk E s wv asked av) {g : Nat} (hg : w.heap.size ≤ g) (hl : g < w1.heap.size) : Far w1 ab ob mb gk wv av g := by
  have h1 := blk_lt h.hgk
  refine ⟨hl, fun hm => ?_, by omega, fun hm => ?_⟩
  · have := h.core.lt _ hm; omega
  · have := (own_lt h.own g hm.symm).1; omega
def res67 (q : Int) (s1 : PS) : Except Int (Int × Int) → PS × Except Int (Int × List Int)
  | .error e => (s1, .error e)
  | .ok (v, _) => (s1, .ok (v, [q]))
/-- One call of the closure, from a state of a working out to the next: 'Works' at the model's step. -/
theorem step_any {E : Env} {on : List Int} {ask : AskFn} (IH : AskOK E on ask) {w : World} {X : Nat → Prop} {ab eb ib mb ob ga gk : Nat} {s : PS} {wv av : Value} {asked : List Int} {q : Int}
    (hw : WW w X ab eb ib mb ob ga gk E s wv asked av) (ho : OpenX w ob on) (hi : PInv E on s) (hq : InQ E q) (hl : asked.length ≤ 100) {s1 : PS} {r1 : Except Int (Int × Int)} (hr : ask s q = (s1, r1)) :
    Calls Tryd.prog 67 #[.int .i64 q, .pointer (some ⟨gk, 0, none⟩), .pointer (some ⟨ga, 0, none⟩)] w
      (Works w X ab eb ib mb ob ga gk E on wv av asked (res67 q s1 r1)) := by
  have h := work1_any IH w X ab eb ib mb ob ga gk s wv av asked q hw ho hi hq hl
  rw [hr] at h
  cases r1 with
  | error e => exact h
  | ok y => obtain ⟨v, c⟩ := y; exact h
def prepend (got : List Int) (r : PS × Except Int (List Int)) : PS × Except Int (List Int) :=
  match r with
  | (s, .error e) => (s, .error e)
  | (s, .ok vs) => (s, .ok (got ++ vs))
theorem sum_mod (n : Int) (hn : 1 ≤ n) : ∀ (l : List Int) (a : Int), l.foldl (fun m x => (m + x) % n) (a % n) = (a + l.sum) % n
  | [], a => by simp
  | x :: r, a => by
    rw [List.foldl_cons, List.sum_cons, ← Int.add_assoc, ← sum_mod n hn r (a + x)]
    congr 1
    rw [Int.emod_add_emod]
theorem sum_range {l : List Int} (h : ∀ v ∈ l, 0 ≤ v ∧ v ≤ 1048576) : 0 ≤ l.sum ∧ l.sum ≤ 1048576 * l.length := by
  induction l with
  | nil => simp
  | cons x r ih =>
    have h1 := h x List.mem_cons_self
    have h2 := ih (fun v hv => h v (List.mem_cons_of_mem _ hv))
    rw [List.sum_cons, List.length_cons]
    omega

theorem IntsX.cellAt {w : World} {X : Nat → Prop} {b o n c : Nat} {xs : List Int} (h : IntsX w X (.slice (some ⟨b, o, none⟩) n c) xs) {k : Nat} (hk : k < xs.length) : w.cell? ⟨b, o + k, none⟩ = some (.int .i64 (xs.getD k 0)) := by
  obtain ⟨A', c', h1, _, h3⟩ := h
  injection h1 with h1 _ _
  obtain ⟨b', o', h4, _, h5⟩ := h3 k hk
  rw [← h1] at h4
  injection h4 with h4
  injection h4 with h4 h6
  subst h4; subst h6
  exact h5
theorem take_snoc {xs : List Int} {k : Nat} (h : k < xs.length) : xs.take k ++ [xs.getD k 0] = xs.take (k + 1) := by
  rw [List.take_succ_eq_append_getElem h]
  simp [List.getD_eq_getElem?_getD, h]
/-- The state of a loop over what a rule asks. -/
structure LoopSt (w1 : World) (X : Nat → Prop) (ab eb ib mb ob ga gk : Nat) (E : Env) (on : List Int) (ask : AskFn) (stop : Bool) (s : PS) (wv av : Value) (asks : List Int) (k : Nat) (got : List Int) (sk : PS) (wr : World) (Xk : Nat → Prop) (wvk avk : Value) : Prop where
  len : got.length = k
  rng : ∀ v ∈ got, 0 ≤ v ∧ v ≤ 1048576
  tr : WT w1 X ab ob mb gk wv av wr Xk wvk avk
  st : WW wr Xk ab eb ib mb ob ga gk E sk wvk (asks.take k) avk
  op : OpenX wr ob on
  inv : PInv E on sk
  eq : askAll ask stop s asks = prepend got (askAll ask stop sk (asks.drop k))
theorem LoopSt.next {w1 wr w2 : World} {X Xk X' : Nat → Prop} {ab eb ib mb ob ga gk : Nat} {E : Env} {on : List Int} {ask : AskFn} {stop : Bool} {s sk s1 : PS} {wv av wvk avk wv' av' : Value} {asks : List Int} {k : Nat} {got : List Int} {v ch : Int}
    (h : LoopSt w1 X ab eb ib mb ob ga gk E on ask stop s wv av asks k got sk wr Xk wvk avk) (hlt : k < asks.length) (hr : ask sk (asks.getD k 0) = (s1, .ok (v, ch))) (hv : 0 ≤ v ∧ v ≤ 1048576) (hs : ¬ (stop = true ∧ v ≠ 0)) (hi : PInv E on s1)
    (ht : WT wr Xk ab ob mb gk wvk avk w2 X' wv' av') (hw : WW w2 X' ab eb ib mb ob ga gk E s1 wv' (asks.take k ++ [asks.getD k 0]) av') (ho : OpenX w2 ob on) :
    LoopSt w1 X ab eb ib mb ob ga gk E on ask stop s wv av asks (k + 1) (got ++ [v]) s1 w2 X' wv' av' := by
  refine ⟨by simp [h.len], fun u hu => ?_, h.tr.trans ht, by rw [← take_snoc hlt]; exact hw, ho, hi, ?_⟩
  · rcases List.mem_append.1 hu with hu | hu
    · exact h.rng u hu
    · rw [List.mem_singleton.1 hu]; exact hv
  · rw [h.eq, drop_cons hlt, askAll, hr]
    simp only [if_neg hs]
    rcases askAll ask stop s1 (asks.drop (k + 1)) with ⟨s2, r2⟩
    cases r2 <;> simp [prepend]
theorem LoopSt.err {w1 wr : World} {X Xk : Nat → Prop} {ab eb ib mb ob ga gk : Nat} {E : Env} {on : List Int} {ask : AskFn} {stop : Bool} {s sk s1 : PS} {wv av wvk avk : Value} {asks : List Int} {k : Nat} {got : List Int} {e : Int}
    (h : LoopSt w1 X ab eb ib mb ob ga gk E on ask stop s wv av asks k got sk wr Xk wvk avk) (hlt : k < asks.length) (hr : ask sk (asks.getD k 0) = (s1, .error e)) : askAll ask stop s asks = (s1, .error e) := by
  rw [h.eq, drop_cons hlt, askAll, hr]; rfl
theorem LoopSt.stop_ {w1 wr : World} {X Xk : Nat → Prop} {ab eb ib mb ob ga gk : Nat} {E : Env} {on : List Int} {ask : AskFn} {s sk s1 : PS} {wv av wvk avk : Value} {asks : List Int} {k : Nat} {got : List Int} {v ch : Int}
    (h : LoopSt w1 X ab eb ib mb ob ga gk E on ask true s wv av asks k got sk wr Xk wvk avk) (hlt : k < asks.length) (hr : ask sk (asks.getD k 0) = (s1, .ok (v, ch))) (hv : v ≠ 0) : askAll ask true s asks = (s1, .ok (got ++ [v])) := by
  rw [h.eq, drop_cons hlt, askAll, hr]
  simp [hv, prepend]
theorem LoopSt.end_ {w1 wr : World} {X Xk : Nat → Prop} {ab eb ib mb ob ga gk : Nat} {E : Env} {on : List Int} {ask : AskFn} {stop : Bool} {s sk : PS} {wv av wvk avk : Value} {asks : List Int} {got : List Int}
    (h : LoopSt w1 X ab eb ib mb ob ga gk E on ask stop s wv av asks asks.length got sk wr Xk wvk avk) : askAll ask stop s asks = (sk, .ok got) := by
  rw [h.eq, List.drop_length]; simp [askAll, prepend]
theorem LoopSt.start {w1 : World} {X : Nat → Prop} {ab eb ib mb ob ga gk : Nat} {E : Env} {on : List Int} {ask : AskFn} {stop : Bool} {s : PS} {wv av : Value} {asks : List Int} (hw : WW w1 X ab eb ib mb ob ga gk E s wv [] av) (ho : OpenX w1 ob on) (hi : PInv E on s) :
    LoopSt w1 X ab eb ib mb ob ga gk E on ask stop s wv av asks 0 [] s w1 X wv av :=
  ⟨rfl, fun _ h => (by cases h), WT.refl _ _ _ _ _ _ _ _, by simpa using hw, ho, hi, by
    rcases h : askAll ask stop s asks with ⟨s2, r2⟩
    cases r2 <;> simp [prepend, h]⟩

theorem LoopSt.works {w w1 wr : World} {X Xk : Nat → Prop} {ab eb ib mb ob ga gk : Nat} {E : Env} {on : List Int} {ask : AskFn} {stop : Bool} {s sk : PS} {wv av wvk avk : Value} {asks : List Int} {k : Nat} {got : List Int}
    (h : LoopSt w1 X ab eb ib mb ob ga gk E on ask stop s wv av asks k got sk wr Xk wvk avk) (hk : Keeps Nob w w1) {v : Int} {RR : PS × Except Int (Int × List Int)} (hR : RR = (sk, .ok (v, asks.take k))) :
    Works w X ab eb ib mb ob ga gk E on wv av [] RR (.returned (.int .i64 v)) wr := by
  rw [hR]
  exact ⟨Xk, wvk, avk, WT.after hk h.tr, h.st.core, by simpa using h.st, h.op, rfl⟩
theorem evalR_loop {ask : AskFn} {s s1 : PS} {r : QRule} (hk : r.kind ≠ 3) {got : List Int} (h : askAll ask (r.kind == 4) s r.asks = (s1, .ok got)) : evalR ask s r = (s1, .ok (answerOf r got, r.asks.take got.length)) := by
  unfold evalR; rw [if_neg hk, h]
theorem evalR_err {ask : AskFn} {s s1 : PS} {r : QRule} (hk : r.kind ≠ 3) {e : Int} (h : askAll ask (r.kind == 4) s r.asks = (s1, .error e)) : evalR ask s r = (s1, .error e) := by
  unfold evalR; rw [if_neg hk, h]
set_option maxHeartbeats 1000000 in
/-- RuSum. -/
theorem answer_sum {E : Env} {on : List Int} {ask : AskFn} (IH : AskOK E on ask) (hG : QM.Good E on ask) (w : World) (X : Nat → Prop) (ab eb ib mb ob ga gk : Nat) (s : PS) (wv av asv : Value) (n : Int) (asks : List Int)
    (hw : WW w X ab eb ib mb ob ga gk E s wv [] av) (ho : OpenX w ob on) (hi : PInv E on s) (hq : ∀ q ∈ asks, InQ E q) (hx : IntsX w X asv asks) (hl : asks.length ≤ 12) (hn1 : 1 ≤ n) (hn2 : n ≤ 1048576) :
    Calls Tryd.prog 66 #[.agg #[.int .i64 2, .int .i64 n, asv], .func (.func 67) #[] #[.pointer (some ⟨gk, 0, none⟩), .pointer (some ⟨ga, 0, none⟩)]] w
      (Works w X ab eb ib mb ob ga gk E on wv av [] (evalR ask s ⟨2, n, asks⟩)) := by
  generalize hRR : evalR ask s ⟨2, n, asks⟩ = RR
  have HRR := Lib.hid hRR
  obtain ⟨A, c, rfl, hcc, hcell⟩ := id hx
  have Hx := Lib.hid hx
  have Hw := Lib.hid hw
  have Ho := Lib.hid ho
  have Hi := Lib.hid hi
  have Hq := Lib.hid hq
  clear hRR hx hw ho hi hq hcell
  go_enter Tryd.func66, Tryd.ntmps66
  go_wp2_with ((with_reducible refine at_dst (N := 2) rfl ?_); go_must (refine ev_box (cs := #[.int .i64 2, .int .i64 n, .slice A asks.length c]) rfl rfl rfl ?_; intro g2 w1 hg2 hl2 hb2 hk2); have Hb2 := Lib.hid hb2; have f0 := blk_cell hb2 0; have f2 := blk_cell hb2 2; clear hb2; (try simp only [Act.put, List.setIfInBounds_toArray, List.set_cons_zero, List.set_cons_succ]))
  have Hfar := Lib.hid (Hw.out.far hg2 hl2)
  have Hw1 := Lib.hid (Hw.out.keep hk2)
  have Ho1 := Lib.hid (Ho.out.keep hk2 id)
  have Hx1 := Lib.hid (Hx.out.keep hk2 (fun _ _ _ h => h) (fun _ _ h => h))
  have Hk2 := Lib.hid hk2
  clear f0 f2 hk2
  go_loopw [5, 21] (fun sm v wr => ∃ (k : Nat) (got : List Int) (sk : PS) (Xk : Nat → Prop) (wvk avk : Value), v = .int .i64 k ∧ sm = .int .i64 got.sum ∧ k ≤ asks.length ∧ Hid (LoopSt w1 X ab eb ib mb ob ga gk E on ask false s wv av asks k got sk wr Xk wvk avk))
    (fun _ v _ => asks.length - (intOf v).toNat)
  case atStart => exact ⟨0, [], s, X, wv, av, rfl, rfl, Nat.zero_le _, LoopSt.start Hw1.out Ho1.out Hi.out⟩
  case round =>
    obtain ⟨k, got, sk, Xk, wvk, avk, rfl, rfl, hk, hst⟩ := hrel
    obtain ⟨hs0, hs1⟩ := sum_range hst.out.rng
    rw [hst.out.len] at hs1
    by_cases hlt : k < asks.length
    · have hx1 := hst.out.tr.ints Hw1.out Hx1.out
      obtain ⟨b, o, rfl, _, _⟩ := (by obtain ⟨A', c', h1, _, h3⟩ := Hx1.out; injection h1 with h1 _ _; subst h1; exact h3 k hlt : ∃ b o, A = some ⟨b, o, none⟩ ∧ X b ∧ w1.cell? ⟨b, o + k, none⟩ = some (.int .i64 (asks.getD k 0)))
      have hcw := hx1.cellAt hlt
      obtain ⟨q, Hqd⟩ : ∃ q, Hid (asks.getD k 0 = q) := ⟨_, rfl⟩
      rw [Hqd.out] at hcw
      have hqq := Hq.out _ (getD_mem hlt)
      have hgood := hG sk (asks.getD k 0) hst.out.inv hqq
      rcases hr : ask sk (asks.getD k 0) with ⟨s1, r1⟩
      have Hrun := Lib.hid (step_any IH hst.out.st hst.out.op hst.out.inv hqq (by simp; omega) hr)
      rw [hr] at hgood
      rw [Hqd.out] at Hrun
      have Hgood := Lib.hid hgood
      have Hr := Lib.hid hr
      have Hx2 := Lib.hid hx1
      clear hgood hr hx1 hqq
      cases r1 with
      | error x =>
        go_wp2_with (go_at_call 67; go_must (refine Hrun.out.mono ?_; rintro e w2 ⟨X', wv', av', ht', hc', he⟩; dsimp only [res67] at he hc' ht'; subst he))
        refine ⟨rfl, X', wv', av', WT.after Hk2.out (hst.out.tr.trans ht'), ?_⟩
        rw [← HRR.out, evalR_err (r := ⟨2, n, asks⟩) (show (2 : Int) ≠ 3 by decide) (hst.out.err hlt Hr.out)]
        exact ⟨hc', rfl⟩
      | ok y =>
        obtain ⟨v, ch⟩ := y
        have hv := Hgood.out.2 v ch rfl
        go_wp2_with (go_at_call 67; go_must (refine Hrun.out.mono ?_; rintro e w2 ⟨X', wv', av', ht', hc', he⟩; dsimp only [res67] at he hc' ht'; obtain ⟨hw', ho', rfl⟩ := he))
        go_roundw
        case rel => exact ⟨k + 1, got ++ [v], s1, X', wv', av', by go_num, by simp, by omega, hst.out.next hlt Hr.out hv (by simp) Hgood.out.1.inv ht' (by rw [Hqd.out]; exact hw') ho'⟩
        case measure => simp [intOf]; omega
    · obtain rfl : k = asks.length := by omega
      have hb3 := Hfar.out.blk hst.out.tr Hb2.out
      have f1 := blk_cell hb3 1
      have hn0 : (n == 0) = false := by simp; omega
      clear hb3
      have Hend := Lib.hid hst.out.end_
      go_wp2
      go_ret
      refine hst.out.works Hk2.out ?_
      rw [← HRR.out, evalR_loop (r := ⟨2, n, asks⟩) (show (2 : Int) ≠ 3 by decide) Hend.out]
      have h1 := sum_mod n hn1 got 0
      rw [Int.zero_emod, Int.zero_add] at h1
      show (sk, Except.ok (got.foldl (fun m x => (m + x) % n) 0, asks.take got.length)) = _
      rw [h1, hst.out.len]

theorem last_zero {l : List Int} (h : ∀ v ∈ l, v = 0) : l.getLastD 0 = 0 := by
  cases l with
  | nil => rfl
  | cons x r =>
    rw [List.getLastD_eq_getLast?, List.getLast?_eq_some_getLast (by simp)]
    exact h _ (List.getLast_mem _)
set_option maxHeartbeats 1000000 in
/-- RuFirst. -/
theorem answer_first {E : Env} {on : List Int} {ask : AskFn} (IH : AskOK E on ask) (hG : QM.Good E on ask) (w : World) (X : Nat → Prop) (ab eb ib mb ob ga gk : Nat) (s : PS) (wv av asv : Value) (n : Int) (asks : List Int)
    (hw : WW w X ab eb ib mb ob ga gk E s wv [] av) (ho : OpenX w ob on) (hi : PInv E on s) (hq : ∀ q ∈ asks, InQ E q) (hx : IntsX w X asv asks) (hl : asks.length ≤ 12) :
    Calls Tryd.prog 66 #[.agg #[.int .i64 4, .int .i64 n, asv], .func (.func 67) #[] #[.pointer (some ⟨gk, 0, none⟩), .pointer (some ⟨ga, 0, none⟩)]] w
      (Works w X ab eb ib mb ob ga gk E on wv av [] (evalR ask s ⟨4, n, asks⟩)) := by
  generalize hRR : evalR ask s ⟨4, n, asks⟩ = RR
  have HRR := Lib.hid hRR
  obtain ⟨A, c, rfl, hcc, hcell⟩ := id hx
  have Hx := Lib.hid hx
  have Hw := Lib.hid hw
  have Ho := Lib.hid ho
  have Hi := Lib.hid hi
  have Hq := Lib.hid hq
  clear hRR hx hw ho hi hq hcell
  go_enter Tryd.func66, Tryd.ntmps66
  go_wp2_with ((with_reducible refine at_dst (N := 2) rfl ?_); go_must (refine ev_box (cs := #[.int .i64 4, .int .i64 n, .slice A asks.length c]) rfl rfl rfl ?_; intro g2 w1 hg2 hl2 hb2 hk2); have Hb2 := Lib.hid hb2; have f0 := blk_cell hb2 0; have f2 := blk_cell hb2 2; clear hb2; (try simp only [Act.put, List.setIfInBounds_toArray, List.set_cons_zero, List.set_cons_succ]))
  have Hfar := Lib.hid (Hw.out.far hg2 hl2)
  have Hw1 := Lib.hid (Hw.out.keep hk2)
  have Ho1 := Lib.hid (Ho.out.keep hk2 id)
  have Hx1 := Lib.hid (Hx.out.keep hk2 (fun _ _ _ h => h) (fun _ _ h => h))
  have Hk2 := Lib.hid hk2
  clear f0 f2 hk2
  go_loopw [61] (fun v wr => ∃ (k : Nat) (got : List Int) (sk : PS) (Xk : Nat → Prop) (wvk avk : Value), v = .int .i64 k ∧ k ≤ asks.length ∧ Hid (∀ u ∈ got, u = 0) ∧ Hid (LoopSt w1 X ab eb ib mb ob ga gk E on ask true s wv av asks k got sk wr Xk wvk avk))
    (fun v _ => asks.length - (intOf v).toNat)
  case atStart => exact ⟨0, [], s, X, wv, av, rfl, Nat.zero_le _, fun _ h => (by cases h), LoopSt.start Hw1.out Ho1.out Hi.out⟩
  case round =>
    obtain ⟨k, got, sk, Xk, wvk, avk, rfl, hk, hz, hst⟩ := hrel
    by_cases hlt : k < asks.length
    · have hx1 := hst.out.tr.ints Hw1.out Hx1.out
      obtain ⟨b, o, rfl, _, _⟩ := (by obtain ⟨A', c', h1, _, h3⟩ := Hx1.out; injection h1 with h1 _ _; subst h1; exact h3 k hlt : ∃ b o, A = some ⟨b, o, none⟩ ∧ X b ∧ w1.cell? ⟨b, o + k, none⟩ = some (.int .i64 (asks.getD k 0)))
      have hcw := hx1.cellAt hlt
      obtain ⟨q, Hqd⟩ : ∃ q, Hid (asks.getD k 0 = q) := ⟨_, rfl⟩
      rw [Hqd.out] at hcw
      have hqq := Hq.out _ (getD_mem hlt)
      have hgood := hG sk (asks.getD k 0) hst.out.inv hqq
      rcases hr : ask sk (asks.getD k 0) with ⟨s1, r1⟩
      have Hrun := Lib.hid (step_any IH hst.out.st hst.out.op hst.out.inv hqq (by simp; omega) hr)
      rw [hr] at hgood
      rw [Hqd.out] at Hrun
      have Hgood := Lib.hid hgood
      have Hr := Lib.hid hr
      have Hx2 := Lib.hid hx1
      clear hgood hr hx1 hqq
      cases r1 with
      | error x =>
        go_wp2_with (go_at_call 67; go_must (refine Hrun.out.mono ?_; rintro e w2 ⟨X', wv', av', ht', hc', he⟩; dsimp only [res67] at he hc' ht'; subst he))
        refine ⟨rfl, X', wv', av', WT.after Hk2.out (hst.out.tr.trans ht'), ?_⟩
        rw [← HRR.out, evalR_err (r := ⟨4, n, asks⟩) (show (4 : Int) ≠ 3 by decide) (hst.out.err hlt Hr.out)]
        exact ⟨hc', rfl⟩
      | ok y =>
        obtain ⟨v, ch⟩ := y
        have hv := Hgood.out.2 v ch rfl
        by_cases hv0 : v = 0
        · subst hv0
          go_wp2_with (go_at_call 67; go_must (refine Hrun.out.mono ?_; rintro e w2 ⟨X', wv', av', ht', hc', he⟩; dsimp only [res67] at he hc' ht'; obtain ⟨hw', ho', rfl⟩ := he))
          go_roundw
          case rel => exact ⟨k + 1, got ++ [0], s1, X', wv', av', by go_num, by omega, fun u hu => (List.mem_append.1 hu).elim (hz.out u) (fun h => List.mem_singleton.1 h), hst.out.next hlt Hr.out (by omega) (by simp) Hgood.out.1.inv ht' (by rw [Hqd.out]; exact hw') ho'⟩
          case measure => simp [intOf]; omega
        · have hvb : (v == 0) = false := by simpa using hv0
          have hvb2 : (v != 0) = true := by simpa using hv0
          have Hv0 := Lib.hid hv0
          clear hv0
          go_wp2_with (go_at_call 67; go_must (refine Hrun.out.mono ?_; rintro e w2 ⟨X', wv', av', ht', hc', he⟩; dsimp only [res67] at he hc' ht'; obtain ⟨hw', ho', rfl⟩ := he))
          go_ret
          rw [← HRR.out, evalR_loop (r := ⟨4, n, asks⟩) (show (4 : Int) ≠ 3 by decide) (hst.out.stop_ hlt Hr.out Hv0.out)]
          refine ⟨X', wv', av', WT.after Hk2.out (hst.out.tr.trans ht'), hc', ?_⟩
          have e1 : answerOf ⟨4, n, asks⟩ (got ++ [v]) = v := by
            show (got ++ [v]).getLastD 0 = v
            simp
          have e2 : asks.take (got ++ [v]).length = asks.take k ++ [asks.getD k 0] := by rw [take_snoc hlt]; simp [hst.out.len]
          show WW _ _ _ _ _ _ _ _ _ _ _ _ ([] ++ asks.take (got ++ [v]).length) _ ∧ _ ∧ _
          rw [e1, List.nil_append, e2, Hqd.out]
          exact ⟨hw', ho', rfl⟩
    · obtain rfl : k = asks.length := by omega
      have Hend := Lib.hid hst.out.end_
      go_wp2
      go_ret
      refine hst.out.works Hk2.out ?_
      rw [← HRR.out, evalR_loop (r := ⟨4, n, asks⟩) (show (4 : Int) ≠ 3 by decide) Hend.out]
      show (sk, Except.ok (got.getLastD 0, asks.take got.length)) = _
      rw [last_zero hz.out, hst.out.len]
end Go.Proofs.QW

/-
  A rule worked out, in memory: the three kinds that ask a fixed number of questions. Condition: nested askings come to the model's.
-/
namespace Go.Proofs.QW
open Go.RowKit Go.Proofs.KL Go.Proofs.QM
set_option maxRecDepth 100000
set_option linter.unusedSimpArgs false
set_option linter.unusedVariables false

set_option maxHeartbeats 1000000 in
/-- RuLess. -/
theorem answer_less {E : Env} {on : List Int} {ask : AskFn} (IH : AskOK E on ask) (hG : QM.Good E on ask) (w : World) (X : Nat → Prop) (ab eb ib mb ob ga gk : Nat) (s : PS) (wv av asv : Value) (n q0 q1 : Int)
    (hw : WW w X ab eb ib mb ob ga gk E s wv [] av) (ho : OpenX w ob on) (hi : PInv E on s) (h0 : InQ E q0) (h1 : InQ E q1) (hx : IntsX w X asv [q0, q1]) :
    Calls Tryd.prog 66 #[.agg #[.int .i64 5, .int .i64 n, asv], .func (.func 67) #[] #[.pointer (some ⟨gk, 0, none⟩), .pointer (some ⟨ga, 0, none⟩)]] w
      (Works w X ab eb ib mb ob ga gk E on wv av [] (evalR ask s ⟨5, n, [q0, q1]⟩)) := by
  generalize hRR : evalR ask s ⟨5, n, [q0, q1]⟩ = RR
  have HRR := Lib.hid hRR
  obtain ⟨A, c, rfl, hcc, hcell⟩ := id hx
  obtain ⟨b, o, rfl, _, hc0⟩ := hcell 0 (by simp)
  have hc1 := hx.cellAt (k := 1) (by simp)
  simp at hc0 hc1
  have Hx := Lib.hid hx
  have Hw := Lib.hid hw
  have Ho := Lib.hid ho
  have Hi := Lib.hid hi
  clear hRR hx hw ho hi hcell hc0 hc1
  simp only [List.length_cons, List.length_nil, Nat.zero_add, Nat.reduceAdd] at hcc ⊢
  go_enter Tryd.func66, Tryd.ntmps66
  go_wp2_with ((with_reducible refine at_dst (N := 2) rfl ?_); go_must (refine ev_box (cs := #[.int .i64 5, .int .i64 n, .slice (some ⟨b, o, none⟩) 2 c]) rfl rfl rfl ?_; intro g2 w1 hg2 hl2 hb2 hk2); have Hb2 := Lib.hid hb2; have f0 := blk_cell hb2 0; have f2 := blk_cell hb2 2; have fq := (Hx.out.keep hk2 (X' := X) (fun _ _ _ h => h) (fun _ _ h => h)).cellAt (k := 0) (by simp); simp only [List.getD_cons_zero, Nat.add_zero] at fq; clear hb2; (try simp only [Act.put, List.setIfInBounds_toArray, List.set_cons_zero, List.set_cons_succ]))
  have Hfar := Lib.hid (Hw.out.far hg2 hl2)
  have Hw1 := Lib.hid (Hw.out.keep hk2)
  have Ho1 := Lib.hid (Ho.out.keep hk2 id)
  have Hx1 := Lib.hid (Hx.out.keep hk2 (X' := X) (fun _ _ _ h => h) (fun _ _ h => h))
  have Hk2 := Lib.hid hk2
  have H0 := Lib.hid (LoopSt.start (ask := ask) (stop := false) (asks := [q0, q1]) Hw1.out Ho1.out Hi.out)
  clear f0 f2 fq hk2
  have hg0 := hG s q0 Hi.out h0
  rcases hr : ask s q0 with ⟨s1, r1⟩
  have Hrun := Lib.hid (step_any IH Hw1.out Ho1.out Hi.out h0 (by simp) hr)
  rw [hr] at hg0
  have Hg0 := Lib.hid hg0
  have Hr := Lib.hid hr
  clear hg0 hr
  cases r1 with
  | error x =>
    refine Hrun.out.mono ?_
    rintro e w2 ⟨X', wv', av', ht', hc', he⟩
    dsimp only [res67] at he hc' ht'
    subst he
    refine ⟨rfl, X', wv', av', WT.after Hk2.out ht', ?_⟩
    rw [← HRR.out, evalR_err (r := ⟨5, n, [q0, q1]⟩) (show (5 : Int) ≠ 3 by decide) (H0.out.err (by simp) Hr.out)]
    exact ⟨hc', rfl⟩
  | ok y =>
    obtain ⟨v0, ch⟩ := y
    have hv0 := Hg0.out.2 v0 ch rfl
    refine Hrun.out.mono ?_
    rintro e w2 ⟨X2, wv2, av2, ht2, hc2, he⟩
    dsimp only [res67] at he hc2 ht2
    obtain ⟨hw2, ho2, rfl⟩ := he
    have H1 := Lib.hid (H0.out.next (k := 0) (by simp) Hr.out hv0 (by simp) Hg0.out.1.inv ht2 hw2 ho2)
    have Hi1 := Lib.hid Hg0.out.1.inv
    have hb3 := Hfar.out.blk ht2 Hb2.out
    have Hfar2 := Lib.hid (Hfar.out.step ht2)
    have f2 := blk_cell hb3 2
    have fq := (ht2.ints Hw1.out Hx1.out).cellAt (k := 1) (by simp)
    simp only [List.getD_cons_zero, List.getD_cons_succ] at fq
    have Hw2 := Lib.hid hw2
    have Ho2 := Lib.hid ho2
    have Ht2 := Lib.hid ht2
    clear hb3 hw2 ho2 ht2 hc2
    go_wp2_with fail
    have hg1 := hG s1 q1 Hi1.out h1
    rcases hr : ask s1 q1 with ⟨s3, r3⟩
    have Hrun2 := Lib.hid (step_any IH Hw2.out Ho2.out Hi1.out h1 (by simp) hr)
    rw [hr] at hg1
    have Hg1 := Lib.hid hg1
    have Hr2 := Lib.hid hr
    clear hg1 hr f2 fq
    cases r3 with
    | error x =>
      refine Hrun2.out.mono ?_
      rintro e w3 ⟨X', wv', av', ht', hc', he⟩
      dsimp only [res67] at he hc' ht'
      subst he
      refine ⟨rfl, X', wv', av', WT.after Hk2.out (Ht2.out.trans ht'), ?_⟩
      rw [← HRR.out, evalR_err (r := ⟨5, n, [q0, q1]⟩) (show (5 : Int) ≠ 3 by decide) (H1.out.err (by simp) Hr2.out)]
      exact ⟨hc', rfl⟩
    | ok y =>
      obtain ⟨v1, ch1⟩ := y
      have hv1 := Hg1.out.2 v1 ch1 rfl
      refine Hrun2.out.mono ?_
      rintro e w3 ⟨X3, wv3, av3, ht3, hc3, he⟩
      dsimp only [res67] at he hc3 ht3
      obtain ⟨hw3, ho3, rfl⟩ := he
      have H2 := Lib.hid (H1.out.next (k := 1) (by simp) Hr2.out hv1 (by simp) Hg1.out.1.inv ht3 hw3 ho3)
      have Hev := Lib.hid (evalR_loop (r := ⟨5, n, [q0, q1]⟩) (show (5 : Int) ≠ 3 by decide) H2.out.end_)
      clear hw3 ho3 ht3 hc3
      by_cases hlt : v0 < v1
      · go_wp2
        go_ret
        refine H2.out.works Hk2.out ?_
        rw [← HRR.out, Hev.out]
        show (s3, Except.ok (if v0 < v1 then (1 : Int) else 0, [q0, q1])) = _
        rw [if_pos hlt]; rfl
      · go_wp2
        go_ret
        refine H2.out.works Hk2.out ?_
        rw [← HRR.out, Hev.out]
        show (s3, Except.ok (if v0 < v1 then (1 : Int) else 0, [q0, q1])) = _
        rw [if_neg (by omega)]; rfl

set_option maxHeartbeats 1000000 in
/-- RuStep. -/
theorem answer_step {E : Env} {on : List Int} {ask : AskFn} (IH : AskOK E on ask) (hG : QM.Good E on ask) (w : World) (X : Nat → Prop) (ab eb ib mb ob ga gk : Nat) (s : PS) (wv av asv : Value) (n q0 : Int)
    (hw : WW w X ab eb ib mb ob ga gk E s wv [] av) (ho : OpenX w ob on) (hi : PInv E on s) (h0 : InQ E q0) (hx : IntsX w X asv [q0]) (hn1 : -1000 ≤ n) (hn2 : n ≤ 1000) :
    Calls Tryd.prog 66 #[.agg #[.int .i64 6, .int .i64 n, asv], .func (.func 67) #[] #[.pointer (some ⟨gk, 0, none⟩), .pointer (some ⟨ga, 0, none⟩)]] w
      (Works w X ab eb ib mb ob ga gk E on wv av [] (evalR ask s ⟨6, n, [q0]⟩)) := by
  generalize hRR : evalR ask s ⟨6, n, [q0]⟩ = RR
  have HRR := Lib.hid hRR
  obtain ⟨A, c, rfl, hcc, hcell⟩ := id hx
  obtain ⟨b, o, rfl, _, hc0⟩ := hcell 0 (by simp)
  have Hx := Lib.hid hx
  have Hw := Lib.hid hw
  have Ho := Lib.hid ho
  have Hi := Lib.hid hi
  clear hRR hx hw ho hi hcell hc0
  simp only [List.length_cons, List.length_nil, Nat.zero_add] at hcc ⊢
  go_enter Tryd.func66, Tryd.ntmps66
  go_wp2_with ((with_reducible refine at_dst (N := 2) rfl ?_); go_must (refine ev_box (cs := #[.int .i64 6, .int .i64 n, .slice (some ⟨b, o, none⟩) 1 c]) rfl rfl rfl ?_; intro g2 w1 hg2 hl2 hb2 hk2); have Hb2 := Lib.hid hb2; have f0 := blk_cell hb2 0; clear hb2; (try simp only [Act.put, List.setIfInBounds_toArray, List.set_cons_zero, List.set_cons_succ]))
  have f1 := blk_cell Hb2.out 1
  have f2 := blk_cell Hb2.out 2
  simp only [List.getElem?_toArray, List.getElem?_cons_zero, List.getElem?_cons_succ] at f0 f1 f2
  have fq := (Hx.out.keep hk2 (X' := X) (fun _ _ _ h => h) (fun _ _ h => h)).cellAt (k := 0) (by simp)
  simp only [List.getD_cons_zero, Nat.add_zero] at fq
  have Hfar := Lib.hid (Hw.out.far (w1 := w1.drew) hg2 hl2)
  have hkd := hk2.drew
  have Hw1 := Lib.hid (Hw.out.keep hkd)
  have Ho1 := Lib.hid (Ho.out.keep hkd id)
  have Hx1 := Lib.hid (Hx.out.keep hkd (X' := X) (fun _ _ _ h => h) (fun _ _ h => h))
  have Hk2 := Lib.hid hkd
  have H0 := Lib.hid (LoopSt.start (ask := ask) (stop := false) (asks := [q0]) Hw1.out Ho1.out Hi.out)
  clear hk2 hkd
  have hg0 := hG s q0 Hi.out h0
  rcases hr : ask s q0 with ⟨s1, r1⟩
  have Hrun := Lib.hid (step_any IH Hw1.out Ho1.out Hi.out h0 (by simp) hr)
  rw [hr] at hg0
  have Hg0 := Lib.hid hg0
  have Hr := Lib.hid hr
  clear hg0 hr
  cases r1 with
  | error x =>
    refine wp_region_perm [(0, true), (1, true), (2, true), (3, true), (4, true), (6, true), (7, true), (5, false), (8, true), (9, true), (10, true), (11, true)] (fun w' => (w'.cell? ⟨g2, 1, none⟩ = some (.int .i64 n) ∧ w'.cell? ⟨g2, 2, none⟩ = some (.slice (some ⟨b, o, none⟩) 1 c)) ∧ w'.cell? ⟨b, o, none⟩ = some (.int .i64 q0)) rfl (by kernel_rfl) (by kernel_rfl) (by decide) (fun c a d v w h => by cases d <;> exact h) ⟨⟨f1, f2⟩, fq⟩ ?_
    refine perm_q (v := ?v1_0) (some 89) rfl rfl rfl ?q1_0 ?h1_0; (case q1_0 => (intro w' hS; obtain ⟨⟨s1, s2⟩, s3⟩ := hS; first | (go_simp; done) | (go_simp; rfl))); (try simp only [Act.put, List.setIfInBounds_toArray, List.set_cons_zero, List.set_cons_succ])
    refine perm_q (v := ?v1_1) (some 90) rfl rfl rfl ?q1_1 ?h1_1; (case q1_1 => (intro w' hS; obtain ⟨⟨s1, s2⟩, s3⟩ := hS; first | (go_simp; done) | (go_simp; rfl))); (try simp only [Act.put, List.setIfInBounds_toArray, List.set_cons_zero, List.set_cons_succ])
    refine perm_q (v := ?v1_2) (some 91) rfl rfl rfl ?q1_2 ?h1_2; (case q1_2 => (intro w' hS; obtain ⟨⟨s1, s2⟩, s3⟩ := hS; first | (go_simp; done) | (go_simp; rfl))); (try simp only [Act.put, List.setIfInBounds_toArray, List.set_cons_zero, List.set_cons_succ])
    refine perm_q (v := ?v1_3) (some 92) rfl rfl rfl ?q1_3 ?h1_3; (case q1_3 => (intro w' hS; obtain ⟨⟨s1, s2⟩, s3⟩ := hS; first | (go_simp; done) | (go_simp; rfl))); (try simp only [Act.put, List.setIfInBounds_toArray, List.set_cons_zero, List.set_cons_succ])
    refine perm_q (v := ?v1_4) (some 93) rfl rfl rfl ?q1_4 ?h1_4; (case q1_4 => (intro w' hS; obtain ⟨⟨s1, s2⟩, s3⟩ := hS; first | (go_simp; done) | (go_simp; rfl))); (try simp only [Act.put, List.setIfInBounds_toArray, List.set_cons_zero, List.set_cons_succ])
    refine perm_q (v := ?v1_6) (some 95) rfl rfl rfl ?q1_6 ?h1_6; (case q1_6 => (intro w' hS; obtain ⟨⟨s1, s2⟩, s3⟩ := hS; first | (go_simp; done) | (go_simp; rfl))); (try simp only [Act.put, List.setIfInBounds_toArray, List.set_cons_zero, List.set_cons_succ])
    refine perm_q (v := ?v1_7) (some 96) rfl rfl rfl ?q1_7 ?h1_7; (case q1_7 => (intro w' hS; obtain ⟨⟨s1, s2⟩, s3⟩ := hS; first | (go_simp; done) | (go_simp; rfl))); (try simp only [Act.put, List.setIfInBounds_toArray, List.set_cons_zero, List.set_cons_succ])
    refine perm_e rfl ?_   -- 5: call t89(t93)
    go_wp2_with (go_at_call 67; go_must (refine Hrun.out.mono ?_; rintro e w2 ⟨X', wv', av', ht', hc', he⟩; dsimp only [res67] at he hc' ht'; subst he))
    refine ⟨rfl, X', wv', av', WT.after Hk2.out ht', ?_⟩
    rw [← HRR.out, evalR_err (r := ⟨6, n, [q0]⟩) (show (6 : Int) ≠ 3 by decide) (H0.out.err (by simp) Hr.out)]
    exact ⟨hc', rfl⟩
  | ok y =>
    obtain ⟨v0, ch⟩ := y
    have hv0 := Hg0.out.2 v0 ch rfl
    have hwr : IntKind.i64.wrap (v0 + n) = v0 + n := IntWalk.i64_in _ (by omega)
    refine wp_region_perm [(0, true), (1, true), (2, true), (3, true), (4, true), (6, true), (7, true), (5, false), (8, true), (9, true), (10, true), (11, true)] (fun w' => w'.cell? ⟨g2, 1, none⟩ = some (.int .i64 n) ∧ w'.cell? ⟨g2, 2, none⟩ = some (.slice (some ⟨b, o, none⟩) 1 c) ∧ w'.cell? ⟨b, o, none⟩ = some (.int .i64 q0)) rfl (by kernel_rfl) (by kernel_rfl) (by decide) (fun c a d v w h => by cases d <;> exact h) ⟨f1, f2, fq⟩ ?_
    refine perm_q (v := ?v2_0) (some 89) rfl rfl rfl ?q2_0 ?h2_0; (case q2_0 => (intro w' hS; obtain ⟨s1, s2, s3⟩ := hS; first | (go_simp; done) | (go_simp; rfl))); (try simp only [Act.put, List.setIfInBounds_toArray, List.set_cons_zero, List.set_cons_succ])
    refine perm_q (v := ?v2_1) (some 90) rfl rfl rfl ?q2_1 ?h2_1; (case q2_1 => (intro w' hS; obtain ⟨s1, s2, s3⟩ := hS; first | (go_simp; done) | (go_simp; rfl))); (try simp only [Act.put, List.setIfInBounds_toArray, List.set_cons_zero, List.set_cons_succ])
    refine perm_q (v := ?v2_2) (some 91) rfl rfl rfl ?q2_2 ?h2_2; (case q2_2 => (intro w' hS; obtain ⟨s1, s2, s3⟩ := hS; first | (go_simp; done) | (go_simp; rfl))); (try simp only [Act.put, List.setIfInBounds_toArray, List.set_cons_zero, List.set_cons_succ])
    refine perm_q (v := ?v2_3) (some 92) rfl rfl rfl ?q2_3 ?h2_3; (case q2_3 => (intro w' hS; obtain ⟨s1, s2, s3⟩ := hS; first | (go_simp; done) | (go_simp; rfl))); (try simp only [Act.put, List.setIfInBounds_toArray, List.set_cons_zero, List.set_cons_succ])
    refine perm_q (v := ?v2_4) (some 93) rfl rfl rfl ?q2_4 ?h2_4; (case q2_4 => (intro w' hS; obtain ⟨s1, s2, s3⟩ := hS; first | (go_simp; done) | (go_simp; rfl))); (try simp only [Act.put, List.setIfInBounds_toArray, List.set_cons_zero, List.set_cons_succ])
    refine perm_q (v := ?v2_6) (some 95) rfl rfl rfl ?q2_6 ?h2_6; (case q2_6 => (intro w' hS; obtain ⟨s1, s2, s3⟩ := hS; first | (go_simp; done) | (go_simp; rfl))); (try simp only [Act.put, List.setIfInBounds_toArray, List.set_cons_zero, List.set_cons_succ])
    refine perm_q (v := ?v2_7) (some 96) rfl rfl rfl ?q2_7 ?h2_7; (case q2_7 => (intro w' hS; obtain ⟨s1, s2, s3⟩ := hS; first | (go_simp; done) | (go_simp; rfl))); (try simp only [Act.put, List.setIfInBounds_toArray, List.set_cons_zero, List.set_cons_succ])
    refine perm_e rfl ?_   -- 5: call t89(t93)
    go_wp2_with (go_at_call 67; go_must (refine Hrun.out.mono ?_; rintro e w2 ⟨X2, wv2, av2, ht2, hc2, he⟩; dsimp only [res67] at he hc2 ht2; obtain ⟨hw2, ho2, rfl⟩ := he))
    have hb3 := Hfar.out.blk (w := w1.drew) ht2 Hb2.out
    refine ⟨⟨(blk_cell hb3 1).trans rfl, (blk_cell hb3 2).trans rfl, ?_⟩, ?_⟩
    · have := (ht2.ints Hw1.out Hx1.out).cellAt (k := 0) (by simp)
      simpa using this
    have H1 := Lib.hid (H0.out.next (k := 0) (by simp) Hr.out hv0 (by simp) Hg0.out.1.inv ht2 hw2 ho2)
    have Hev := Lib.hid (evalR_loop (r := ⟨6, n, [q0]⟩) (show (6 : Int) ≠ 3 by decide) H1.out.end_)
    clear hw2 ho2 ht2 hc2 hb3
    refine perm_q (v := ?v2_8) (some 97) rfl rfl rfl ?q2_8 ?h2_8; (case q2_8 => (intro w' hS; obtain ⟨s1, s2, s3⟩ := hS; first | (go_simp; done) | (go_simp; rfl))); (try simp only [Act.put, List.setIfInBounds_toArray, List.set_cons_zero, List.set_cons_succ])
    refine perm_q (v := ?v2_9) (some 98) rfl rfl rfl ?q2_9 ?h2_9; (case q2_9 => (intro w' hS; obtain ⟨s1, s2, s3⟩ := hS; first | (go_simp; done) | (go_simp; rfl))); (try simp only [Act.put, List.setIfInBounds_toArray, List.set_cons_zero, List.set_cons_succ])
    refine perm_q (v := ?v2_10) (some 99) rfl rfl rfl ?q2_10 ?h2_10; (case q2_10 => (intro w' hS; obtain ⟨s1, s2, s3⟩ := hS; first | (go_simp; done) | (go_simp; rfl))); (try simp only [Act.put, List.setIfInBounds_toArray, List.set_cons_zero, List.set_cons_succ])
    refine perm_q (v := ?v2_11) (some 4) rfl rfl rfl ?q2_11 ?h2_11; (case q2_11 => (intro w' hS; obtain ⟨s1, s2, s3⟩ := hS; first | (go_simp; done) | (go_simp; rfl))); (try simp only [Act.put, List.setIfInBounds_toArray, List.set_cons_zero, List.set_cons_succ])
    refine perm_nil ?_
    clear hwr
    go_wp2
    all_goals go_ret
    all_goals
      refine H1.out.works Hk2.out ?_
      rw [← HRR.out, Hev.out]
      exact Prod.ext rfl (congrArg Except.ok (Prod.ext (show min (max (v0 + n) 0) 1048576 = _ by omega) rfl))

set_option maxHeartbeats 1000000 in
/-- RuPick. -/
theorem answer_pick {E : Env} {on : List Int} {ask : AskFn} (IH : AskOK E on ask) (hG : QM.Good E on ask) (w : World) (X : Nat → Prop) (ab eb ib mb ob ga gk : Nat) (s : PS) (wv av asv : Value) (n : Int) (asks : List Int)
    (hw : WW w X ab eb ib mb ob ga gk E s wv [] av) (ho : OpenX w ob on) (hi : PInv E on s) (hrk : ROk E.rules.length ⟨3, n, asks⟩) (hx : IntsX w X asv asks) (hl1 : 2 ≤ asks.length) (hl2 : asks.length ≤ 12) :
    Calls Tryd.prog 66 #[.agg #[.int .i64 3, .int .i64 n, asv], .func (.func 67) #[] #[.pointer (some ⟨gk, 0, none⟩), .pointer (some ⟨ga, 0, none⟩)]] w
      (Works w X ab eb ib mb ob ga gk E on wv av [] (evalR ask s ⟨3, n, asks⟩)) := by
  generalize hRR : evalR ask s ⟨3, n, asks⟩ = RR
  have HRR := Lib.hid hRR
  obtain ⟨A, c, rfl, hcc, hcell⟩ := id hx
  obtain ⟨b, o, rfl, _, hc0⟩ := hcell 0 (by omega)
  have Hx := Lib.hid hx
  have Hw := Lib.hid hw
  have Ho := Lib.hid ho
  have Hi := Lib.hid hi
  have Hrk := Lib.hid hrk
  have h0 := (pick_mem (E := E) (v := 0) hrk rfl (by decide)).2
  clear hRR hx hw ho hi hcell hc0 hrk
  obtain ⟨q0, Hq0⟩ : ∃ q, Hid (asks.getD 0 0 = q) := ⟨_, rfl⟩
  dsimp only at h0
  rw [Hq0.out] at h0
  go_enter Tryd.func66, Tryd.ntmps66
  go_wp2_with ((with_reducible refine at_dst (N := 2) rfl ?_); go_must (refine ev_box (cs := #[.int .i64 3, .int .i64 n, .slice (some ⟨b, o, none⟩) asks.length c]) rfl rfl rfl ?_; intro g2 w1 hg2 hl2 hb2 hk2); have Hb2 := Lib.hid hb2; have f0 := blk_cell hb2 0; have f2 := blk_cell hb2 2; have fq := (Hx.out.keep hk2 (X' := X) (fun _ _ _ h => h) (fun _ _ h => h)).cellAt (k := 0) (by omega); rw [Hq0.out] at fq; simp only [Nat.add_zero] at fq; clear hb2; (try simp only [Act.put, List.setIfInBounds_toArray, List.set_cons_zero, List.set_cons_succ]))
  have Hfar := Lib.hid (Hw.out.far hg2 (by assumption))
  have Hw1 := Lib.hid (Hw.out.keep hk2)
  have Ho1 := Lib.hid (Ho.out.keep hk2 id)
  have Hx1 := Lib.hid (Hx.out.keep hk2 (X' := X) (fun _ _ _ h => h) (fun _ _ h => h))
  have Hk2 := Lib.hid hk2
  clear f0 f2 fq hk2
  have hg0 := hG s q0 Hi.out h0
  rcases hr : ask s q0 with ⟨s1, r1⟩
  have Hrun := Lib.hid (step_any IH Hw1.out Ho1.out Hi.out h0 (by simp) hr)
  rw [hr] at hg0
  have Hg0 := Lib.hid hg0
  have Hr := Lib.hid hr
  clear hg0 hr
  cases r1 with
  | error x =>
    refine Hrun.out.mono ?_
    rintro e w2 ⟨X', wv', av', ht', hc', he⟩
    dsimp only [res67] at he hc' ht'
    subst he
    refine ⟨rfl, X', wv', av', WT.after Hk2.out ht', ?_⟩
    rw [← HRR.out, show evalR ask s ⟨3, n, asks⟩ = (s1, .error x) by unfold evalR; rw [if_pos rfl]; dsimp only; rw [Hq0.out, Hr.out]]
    exact ⟨hc', rfl⟩
  | ok y =>
    obtain ⟨v0, ch⟩ := y
    have hv0 := Hg0.out.2 v0 ch rfl
    refine Hrun.out.mono ?_
    rintro e w2 ⟨X2, wv2, av2, ht2, hc2, he⟩
    dsimp only [res67] at he hc2 ht2
    obtain ⟨hw2, ho2, rfl⟩ := he
    have Hi1 := Lib.hid Hg0.out.1.inv
    have hb3 := Hfar.out.blk ht2 Hb2.out
    have Hfar2 := Lib.hid (Hfar.out.step ht2)
    have Hb3 := Lib.hid hb3
    have hpk := (pick_mem (E := E) (v := v0) Hrk.out rfl hv0.1).1
    have hpos : 0 < (asks.length : Int) - 1 := by omega
    have a1 := Int.emod_nonneg v0 (show (asks.length : Int) - 1 ≠ 0 by omega)
    have a2 := Int.emod_lt_of_pos v0 hpos
    obtain ⟨j, hj⟩ := Int.eq_ofNat_of_zero_le a1
    have hjl : j + 1 < asks.length := by omega
    have hpe : pickOf ⟨3, n, asks⟩ v0 = asks.getD (1 + j) 0 := by
      show asks.getD (1 + v0 % ((asks.length : Int) - 1)).toNat 0 = _
      rw [hj, show (1 + (j : Int)).toNat = 1 + j by omega]
    obtain ⟨q1, Hq1⟩ : ∃ q, Hid (asks.getD (1 + j) 0 = q) := ⟨_, rfl⟩
    rw [hpe, Hq1.out] at hpk
    have Hpe := Lib.hid (hpe.trans Hq1.out)
    have Hj := Lib.hid hj
    have Hw2 := Lib.hid hw2
    have Ho2 := Lib.hid ho2
    have Ht2 := Lib.hid ht2
    have f1 := blk_cell hb3 2
    simp only [List.getElem?_toArray, List.getElem?_cons_zero, List.getElem?_cons_succ] at f1
    clear hb3 hw2 ho2 ht2 hc2 hj hpe a1 a2
    have fq1 := (Ht2.out.ints Hw1.out Hx1.out).cellAt (k := 1 + j) (by omega)
    rw [Hq1.out] at fq1
    go_wp2_with fail
    have hA : IntKind.i64.wrap ((asks.length : Int) - 1) = (asks.length : Int) - 1 := IntWalk.i64_in _ (by omega)
    have hB : v0.tmod ((asks.length : Int) - 1) = (j : Int) := by rw [Int.tmod_eq_emod_of_nonneg hv0.1]; exact Hj.out
    have hC : IntKind.i64.wrap (1 + (j : Int)) = 1 + (j : Int) := IntWalk.i64_in _ (by omega)
    have hD : IntKind.i64.wrap (j : Int) = (j : Int) := IntWalk.i64_in _ (by omega)
    have hE : (1 + (j : Int)).toNat = 1 + j := by omega
    have hF : ¬ (asks.length : Int) - 1 = 0 := by omega
    have hG1 : 1 + (j : Int) < (asks.length : Int) := by omega
    have hG2 : (0 : Int) ≤ 1 + (j : Int) := by omega
    have hkd : Keeps Nob w2 w2.drew := (Keeps.refl Nob w2).drew
    have hg1 := hG s1 q1 Hi1.out hpk
    rcases hr : ask s1 q1 with ⟨s3, r3⟩
    have Hrun2 := Lib.hid (step_any IH (Hw2.out.keep hkd) (Ho2.out.keep hkd id) Hi1.out hpk (by simp) hr)
    rw [hr] at hg1
    have Hg1 := Lib.hid hg1
    have Hr2 := Lib.hid hr
    have Hkd := Lib.hid hkd
    clear hg1 hr hkd
    cases r3 with
    | error x =>
      refine wp_region_perm [(0, true), (1, true), (2, true), (3, true), (4, true), (5, true), (6, true), (7, true), (8, true), (9, true), (10, true), (11, true), (12, false), (13, true)] (fun w' => w'.cell? ⟨g2, 2, none⟩ = some (.slice (some ⟨b, o, none⟩) asks.length c) ∧ w'.cell? ⟨b, o + (1 + j), none⟩ = some (.int .i64 q1)) rfl (by kernel_rfl) (by kernel_rfl) (by decide) (fun c a d v w h => by cases d <;> exact h) ⟨f1, fq1⟩ ?_
      refine perm_q (v := ?v3_0) (some 43) rfl rfl rfl ?q3_0 ?h3_0; (case q3_0 => (intro w' hS; obtain ⟨s1, s2⟩ := hS; first | (go_simp; done) | (go_simp; rfl))); (try simp only [Act.put, List.setIfInBounds_toArray, List.set_cons_zero, List.set_cons_succ])
      refine perm_q (v := ?v3_1) (some 44) rfl rfl rfl ?q3_1 ?h3_1; (case q3_1 => (intro w' hS; obtain ⟨s1, s2⟩ := hS; first | (go_simp; done) | (go_simp; rfl))); (try simp only [Act.put, List.setIfInBounds_toArray, List.set_cons_zero, List.set_cons_succ])
      refine perm_q (v := ?v3_2) (some 45) rfl rfl rfl ?q3_2 ?h3_2; (case q3_2 => (intro w' hS; obtain ⟨s1, s2⟩ := hS; first | (go_simp; done) | (go_simp; rfl))); (try simp only [Act.put, List.setIfInBounds_toArray, List.set_cons_zero, List.set_cons_succ])
      refine perm_q (v := ?v3_3) (some 46) rfl rfl rfl ?q3_3 ?h3_3; (case q3_3 => (intro w' hS; obtain ⟨s1, s2⟩ := hS; first | (go_simp; done) | (go_simp; rfl))); (try simp only [Act.put, List.setIfInBounds_toArray, List.set_cons_zero, List.set_cons_succ])
      refine perm_q (v := ?v3_4) (some 47) rfl rfl rfl ?q3_4 ?h3_4; (case q3_4 => (intro w' hS; obtain ⟨s1, s2⟩ := hS; first | (go_simp; done) | (go_simp; rfl))); (try simp only [Act.put, List.setIfInBounds_toArray, List.set_cons_zero, List.set_cons_succ])
      refine perm_q (v := ?v3_5) (some 48) rfl rfl rfl ?q3_5 ?h3_5; (case q3_5 => (intro w' hS; obtain ⟨s1, s2⟩ := hS; first | (go_simp; done) | (go_simp; rfl))); (try simp only [Act.put, List.setIfInBounds_toArray, List.set_cons_zero, List.set_cons_succ])
      refine perm_q (v := ?v3_6) (some 49) rfl rfl rfl ?q3_6 ?h3_6; (case q3_6 => (intro w' hS; obtain ⟨s1, s2⟩ := hS; first | (go_simp; done) | (go_simp; rfl))); (try simp only [Act.put, List.setIfInBounds_toArray, List.set_cons_zero, List.set_cons_succ])
      refine perm_q (v := ?v3_7) (some 50) rfl rfl rfl ?q3_7 ?h3_7; (case q3_7 => (intro w' hS; obtain ⟨s1, s2⟩ := hS; first | (go_simp; done) | (go_simp; rfl))); (try simp only [Act.put, List.setIfInBounds_toArray, List.set_cons_zero, List.set_cons_succ])
      refine perm_q (v := ?v3_8) (some 51) rfl rfl rfl ?q3_8 ?h3_8; (case q3_8 => (intro w' hS; obtain ⟨s1, s2⟩ := hS; first | (go_simp; done) | (go_simp; rfl))); (try simp only [Act.put, List.setIfInBounds_toArray, List.set_cons_zero, List.set_cons_succ])
      refine perm_q (v := ?v3_9) (some 52) rfl rfl rfl ?q3_9 ?h3_9; (case q3_9 => (intro w' hS; obtain ⟨s1, s2⟩ := hS; first | (go_simp; done) | (go_simp; rfl))); (try simp only [Act.put, List.setIfInBounds_toArray, List.set_cons_zero, List.set_cons_succ])
      refine perm_q (v := ?v3_10) (some 53) rfl rfl rfl ?q3_10 ?h3_10; (case q3_10 => (intro w' hS; obtain ⟨s1, s2⟩ := hS; first | (go_simp; done) | (go_simp; rfl))); (try simp only [Act.put, List.setIfInBounds_toArray, List.set_cons_zero, List.set_cons_succ])
      refine perm_q (v := ?v3_11) (some 54) rfl rfl rfl ?q3_11 ?h3_11; (case q3_11 => (intro w' hS; obtain ⟨s1, s2⟩ := hS; first | (go_simp; done) | (go_simp; rfl))); (try simp only [Act.put, List.setIfInBounds_toArray, List.set_cons_zero, List.set_cons_succ])
      refine perm_e rfl ?_   -- 12: call t43(t54)
      go_wp2_with (go_at_call 67; go_must (refine Hrun2.out.mono ?_; rintro e w3 ⟨X', wv', av', ht', hc', he⟩; dsimp only [res67] at he hc' ht'; subst he))
      refine ⟨rfl, X', wv', av', WT.after Hk2.out (Ht2.out.trans (WT.after Hkd.out ht')), ?_⟩
      rw [← HRR.out, show evalR ask s ⟨3, n, asks⟩ = (s3, .error x) by unfold evalR; rw [if_pos rfl]; dsimp only; rw [Hq0.out, Hr.out]; dsimp only; rw [Hpe.out, Hr2.out]]
      exact ⟨hc', rfl⟩
    | ok y =>
      obtain ⟨v1, ch1⟩ := y
      refine wp_region_perm [(0, true), (1, true), (2, true), (3, true), (4, true), (5, true), (6, true), (7, true), (8, true), (9, true), (10, true), (11, true), (12, false), (13, true)] (fun w' => w'.cell? ⟨g2, 2, none⟩ = some (.slice (some ⟨b, o, none⟩) asks.length c) ∧ w'.cell? ⟨b, o + (1 + j), none⟩ = some (.int .i64 q1)) rfl (by kernel_rfl) (by kernel_rfl) (by decide) (fun c a d v w h => by cases d <;> exact h) ⟨f1, fq1⟩ ?_
      refine perm_q (v := ?v4_0) (some 43) rfl rfl rfl ?q4_0 ?h4_0; (case q4_0 => (intro w' hS; obtain ⟨s1, s2⟩ := hS; first | (go_simp; done) | (go_simp; rfl))); (try simp only [Act.put, List.setIfInBounds_toArray, List.set_cons_zero, List.set_cons_succ])
      refine perm_q (v := ?v4_1) (some 44) rfl rfl rfl ?q4_1 ?h4_1; (case q4_1 => (intro w' hS; obtain ⟨s1, s2⟩ := hS; first | (go_simp; done) | (go_simp; rfl))); (try simp only [Act.put, List.setIfInBounds_toArray, List.set_cons_zero, List.set_cons_succ])
      refine perm_q (v := ?v4_2) (some 45) rfl rfl rfl ?q4_2 ?h4_2; (case q4_2 => (intro w' hS; obtain ⟨s1, s2⟩ := hS; first | (go_simp; done) | (go_simp; rfl))); (try simp only [Act.put, List.setIfInBounds_toArray, List.set_cons_zero, List.set_cons_succ])
      refine perm_q (v := ?v4_3) (some 46) rfl rfl rfl ?q4_3 ?h4_3; (case q4_3 => (intro w' hS; obtain ⟨s1, s2⟩ := hS; first | (go_simp; done) | (go_simp; rfl))); (try simp only [Act.put, List.setIfInBounds_toArray, List.set_cons_zero, List.set_cons_succ])
      refine perm_q (v := ?v4_4) (some 47) rfl rfl rfl ?q4_4 ?h4_4; (case q4_4 => (intro w' hS; obtain ⟨s1, s2⟩ := hS; first | (go_simp; done) | (go_simp; rfl))); (try simp only [Act.put, List.setIfInBounds_toArray, List.set_cons_zero, List.set_cons_succ])
      refine perm_q (v := ?v4_5) (some 48) rfl rfl rfl ?q4_5 ?h4_5; (case q4_5 => (intro w' hS; obtain ⟨s1, s2⟩ := hS; first | (go_simp; done) | (go_simp; rfl))); (try simp only [Act.put, List.setIfInBounds_toArray, List.set_cons_zero, List.set_cons_succ])
      refine perm_q (v := ?v4_6) (some 49) rfl rfl rfl ?q4_6 ?h4_6; (case q4_6 => (intro w' hS; obtain ⟨s1, s2⟩ := hS; first | (go_simp; done) | (go_simp; rfl))); (try simp only [Act.put, List.setIfInBounds_toArray, List.set_cons_zero, List.set_cons_succ])
      refine perm_q (v := ?v4_7) (some 50) rfl rfl rfl ?q4_7 ?h4_7; (case q4_7 => (intro w' hS; obtain ⟨s1, s2⟩ := hS; first | (go_simp; done) | (go_simp; rfl))); (try simp only [Act.put, List.setIfInBounds_toArray, List.set_cons_zero, List.set_cons_succ])
      refine perm_q (v := ?v4_8) (some 51) rfl rfl rfl ?q4_8 ?h4_8; (case q4_8 => (intro w' hS; obtain ⟨s1, s2⟩ := hS; first | (go_simp; done) | (go_simp; rfl))); (try simp only [Act.put, List.setIfInBounds_toArray, List.set_cons_zero, List.set_cons_succ])
      refine perm_q (v := ?v4_9) (some 52) rfl rfl rfl ?q4_9 ?h4_9; (case q4_9 => (intro w' hS; obtain ⟨s1, s2⟩ := hS; first | (go_simp; done) | (go_simp; rfl))); (try simp only [Act.put, List.setIfInBounds_toArray, List.set_cons_zero, List.set_cons_succ])
      refine perm_q (v := ?v4_10) (some 53) rfl rfl rfl ?q4_10 ?h4_10; (case q4_10 => (intro w' hS; obtain ⟨s1, s2⟩ := hS; first | (go_simp; done) | (go_simp; rfl))); (try simp only [Act.put, List.setIfInBounds_toArray, List.set_cons_zero, List.set_cons_succ])
      refine perm_q (v := ?v4_11) (some 54) rfl rfl rfl ?q4_11 ?h4_11; (case q4_11 => (intro w' hS; obtain ⟨s1, s2⟩ := hS; first | (go_simp; done) | (go_simp; rfl))); (try simp only [Act.put, List.setIfInBounds_toArray, List.set_cons_zero, List.set_cons_succ])
      refine perm_e rfl ?_   -- 12: call t43(t54)
      go_wp2_with (go_at_call 67; go_must (refine Hrun2.out.mono ?_; rintro e w3 ⟨X3, wv3, av3, ht3, hc3, he⟩; dsimp only [res67] at he hc3 ht3; obtain ⟨hw3, ho3, rfl⟩ := he))
      have ht3' := WT.after Hkd.out ht3
      refine ⟨⟨(blk_cell (Hfar2.out.blk ht3' Hb3.out) 2).trans rfl, ?_⟩, ?_⟩
      · have := (ht3'.ints Hw2.out (Ht2.out.ints Hw1.out Hx1.out)).cellAt (k := 1 + j) (by omega)
        rw [Hq1.out] at this
        exact this
      refine perm_q (v := ?v4_13) (some 4) rfl rfl rfl ?q4_13 ?h4_13; (case q4_13 => (intro w' hS; obtain ⟨s1, s2⟩ := hS; first | (go_simp; done) | (go_simp; rfl))); (try simp only [Act.put, List.setIfInBounds_toArray, List.set_cons_zero, List.set_cons_succ])
      refine perm_nil ?_
      have Hfin : Hid (Works w X ab eb ib mb ob ga gk E on wv av [] RR (.returned (.int .i64 v1)) w3) := Lib.hid (by
        refine ⟨X3, wv3, av3, WT.after Hk2.out (Ht2.out.trans ht3'), ?_⟩
        rw [← HRR.out, show evalR ask s ⟨3, n, asks⟩ = (s3, .ok (v1, [q0, q1])) by unfold evalR; rw [if_pos rfl]; dsimp only; rw [Hq0.out, Hr.out]; dsimp only; rw [Hpe.out, Hr2.out]]
        exact ⟨hc3, hw3, ho3, rfl⟩)
      clear hw3 ho3 ht3 hc3 ht3'
      go_wp2
      go_ret
      exact Hfin.out
end Go.Proofs.QW

/-
  A region that leaves its order open, walked in every order that matters: quiet operations are taken as early as they may come; where several operations that act may come next, each of them is walked. No condition but the named tree's own check.
-/
namespace Go.Proofs.KL
open Go.RowKit
inductive PT where
  | done : PT
  | q (i : Nat) (r : PT) : PT
  | br (l : List Nat) (f : Nat → PT) : PT
section
variable {P : Program} {ops : Array Oper} {Q : Exit → Act → World → Prop} {S : World → Prop}
def PT.ok (md : Region.Mode) (ops : Array Oper) : PT → Nat → Array Bool → Bool
  | .done, _, listed => (Region.ready md ops listed).isEmpty
  | .q _ _, 0, _ => false
  | .q i r, fuel + 1, listed => Region.free md ops listed i && ((Region.ready md ops listed).contains i && PT.ok md ops r fuel (listed.setIfInBounds i true))
  | .br _ _, 0, _ => false
  | .br l f, fuel + 1, listed => (Region.ready md ops listed == l) && ((!l.isEmpty) && l.all (fun i => PT.ok md ops (f i) fuel (listed.setIfInBounds i true)))
def wpTree (P : Program) (ops : Array Oper) (Q : Exit → Act → World → Prop) (S : World → Prop) : PT → Act → World → Prop
  | .done, a, w => Q .normal a w
  | .q i r, a, w => ∃ o v, ops[i]? = some o ∧ YieldsIf P ops S o v a ∧ wpTree P ops Q S r (a.put o.dst v) w
  | .br l f, a, w => ∀ i ∈ l, ∃ o, ops[i]? = some o ∧ wpList P ops (Exit.then (fun a' w' => S w' ∧ wpTree P ops Q S (f i) a' w') Q) [o] a w
theorem tree_sound {md : Region.Mode} (hs : Region.noSelect ops = true) (hQ : ∀ c a d v w, Q (.panic c) (Act.put a d v) w → Q (.panic c) a w) :
    ∀ (t : PT) (fuel : Nat) (listed : Array Bool) (a : Act) (w : World), PT.ok md ops t fuel listed = true → S w → wpTree P ops Q S t a w → wpAnyH P md ops Q S fuel listed a w
  | .done, fuel, listed, a, w, hB, _, h => wpAnyH_done (by simpa [PT.ok] using hB) h fuel
  | .q i r, 0, listed, a, w, hB, hS, h => by simp [PT.ok] at hB
  | .q i r, fuel + 1, listed, a, w, hB, hS, h => by
    obtain ⟨o, v, ho, hy, h⟩ := h
    simp only [PT.ok, Bool.and_eq_true] at hB
    exact wpAnyH_take ho hs hB.1 hB.2.1 (fun c a w => hQ c a _ _ w) hy hS (tree_sound hs hQ r fuel _ _ _ hB.2.2 hS h)
  | .br l f, 0, listed, a, w, hB, hS, h => by simp [PT.ok] at hB
  | .br l f, fuel + 1, listed, a, w, hB, hS, h => by
    simp only [PT.ok, Bool.and_eq_true, beq_iff_eq] at hB
    refine wpAnyH_all hB.1 (by intro hn; rw [hn] at hB; simp at hB) (fun j hj => ?_)
    obtain ⟨o, ho, h⟩ := h j hj
    have hBj := List.all_eq_true.1 hB.2.2 j hj
    unfold wpOp
    rw [ho]
    have key : ∀ a' w', (S w' ∧ wpTree P ops Q S (f j) a' w') → (S w' ∧ wpAnyH P md ops Q S fuel (listed.setIfInBounds j true) a' w') :=
      fun a' w' ⟨h1, h2⟩ => ⟨h1, tree_sound hs hQ (f j) fuel _ _ _ hBj h1 h2⟩
    unfold wpList at h
    simp only
    split
    · rename_i hw
      rw [if_pos hw] at h
      rcases h with h | ⟨h1, h2⟩
      · refine .inl ?_
        have h' : o.wp P a w (fun a' w' => S w' ∧ wpTree P ops Q S (f j) a' w') Q := h
        exact Oper.wp_mono key h'
      · exact .inr ⟨h1, h2⟩
    · rename_i hw
      rw [if_neg hw] at h
      exact key _ _ h
/-- THE RULE. -/
theorem wp_region_tree {id : Nat} {l : List Oper} {a : Act} {w : World} (t : PT) (S : World → Prop) (hm : P.follows .mixedOrders = true) (hs : Region.noSelect l.toArray = true)
    (hB : PT.ok .any l.toArray t l.toArray.size (Array.replicate l.toArray.size false) = true) (hQ : ∀ c a d v w, Q (.panic c) (Act.put a d v) w → Q (.panic c) a w)
    (hS : S w.drew) (h : wpTree P l.toArray Q S t a w.drew) : (Code.region id l.toArray true).wp P Q a w :=
  wp_region_held (S := S) hm (tree_sound hs hQ t _ _ _ _ hB hS h)
theorem tree_nil {a : Act} {w : World} (h : Q .normal a w) : wpTree P ops Q S .done a w := h
theorem tree_q {i : Nat} {r : PT} {l : List Oper} {o : Oper} {v : Value} {a : Act} {w : World} (d : Option Tmp) (ho : l[i]? = some o) (hd : o.dst = d) (hw : Region.wanted o (yielded l.toArray a.tmps) = true) (hr : ∀ w', S w' → (execOp a.eval o).run P w' = .ok (.value v) w')
    (h : wpTree P l.toArray Q S r (a.put d v) w) : wpTree P l.toArray Q S (.q i r) a w := ⟨o, v, by simpa using ho, .inl ⟨hw, hr⟩, hd ▸ h⟩
theorem tree_skip {i : Nat} {r : PT} {l : List Oper} {o : Oper} {a : Act} {w : World} (d : Option Tmp) (ho : l[i]? = some o) (hd : o.dst = d) (hw : Region.wanted o (yielded l.toArray a.tmps) = false)
    (h : wpTree P l.toArray Q S r (a.put d undef) w) : wpTree P l.toArray Q S (.q i r) a w := ⟨o, undef, by simpa using ho, .inr ⟨hw, rfl⟩, hd ▸ h⟩
theorem tree_e {i : Nat} {r : PT} {f : Nat → PT} {l : List Oper} {o : Oper} {a : Act} {w : World} (ho : l[i]? = some o) (hf : f i = r)
    (h : wpList P l.toArray (Exit.then (fun a' w' => S w' ∧ wpTree P l.toArray Q S r a' w') Q) [o] a w) : wpTree P l.toArray Q S (.br [i] f) a w := by
  intro j hj
  rw [List.mem_singleton.1 hj]
  exact ⟨o, by simpa using ho, hf ▸ h⟩
theorem tree_b {i : Nat} {r : PT} {m : List Nat} {f : Nat → PT} {l : List Oper} {o : Oper} {a : Act} {w : World} (ho : l[i]? = some o) (hf : f i = r)
    (h : wpList P l.toArray (Exit.then (fun a' w' => S w' ∧ wpTree P l.toArray Q S r a' w') Q) [o] a w) (hm : wpTree P l.toArray Q S (.br m f) a w) : wpTree P l.toArray Q S (.br (i :: m) f) a w := by
  intro j hj
  rcases List.mem_cons.1 hj with rfl | hj
  · exact ⟨o, by simpa using ho, hf ▸ h⟩
  · exact hm j hj
end
end Go.Proofs.KL
