/-
  What a question's value is for given inputs, with neither an engine nor anything that is kept: a value with fuel, and what a rule asks on the way. No program in sight. No condition.
-/
import Derived.Test.YtohpkolkagddiaaDoorQ0
namespace Go.Proofs.QM

def pvAll (g : Int → Option Int) (stop : Bool) : List Int → Option (List Int)
  | [] => some []
  | q :: r =>
    match g q with
    | none => none
    | some v => if stop = true ∧ v ≠ 0 then some [v] else (pvAll g stop r).map (v :: ·)
def pvRule (g : Int → Option Int) (r : QRule) : Option (Int × List Int) :=
  if r.kind = 3 then
    match g (r.asks.getD 0 0) with
    | none => none
    | some v => (g (pickOf r v)).map fun u => (u, [r.asks.getD 0 0, pickOf r v])
  else (pvAll g (r.kind == 4) r.asks).map fun got => (answerOf r got, r.asks.take got.length)
def pv (rules : List QRule) (inp : List Int) : Nat → Int → Option Int
  | 0, _ => none
  | f + 1, q => if (rules.getD q.toNat default).kind = 1 then some (inp.getD q.toNat 0) else (pvRule (pv rules inp f) (rules.getD q.toNat default)).map (·.1)
def Val (rules : List QRule) (inp : List Int) (q v : Int) : Prop := ∃ f, pv rules inp f q = some v

theorem pvAll_agree {g g' : Int → Option Int} {stop : Bool} : ∀ {l got : List Int}, pvAll g stop l = some got → (∀ a ∈ l.take got.length, ∀ u, g a = some u → g' a = some u) → pvAll g' stop l = some got
  | [], got, h, _ => by simpa [pvAll] using h
  | q :: r, got, h, ha => by
    unfold pvAll at h ⊢
    cases hq : g q with
    | none => rw [hq] at h; cases h
    | some v =>
      rw [hq] at h
      simp only at h
      by_cases hs : stop = true ∧ v ≠ 0
      · rw [if_pos hs] at h
        injection h with h
        subst h
        rw [ha q (by simp) v hq]
        simp only [if_pos hs]
      · rw [if_neg hs] at h
        obtain ⟨vs, hvs, rfl⟩ := Option.map_eq_some_iff.1 h
        rw [ha q (by simp) v hq]
        simp only [if_neg hs]
        rw [pvAll_agree hvs (fun a hm u hu => ha a (by simp [hm]) u hu)]
        rfl
theorem pvAll_some {g : Int → Option Int} {stop : Bool} : ∀ {l got : List Int}, pvAll g stop l = some got → ∀ a ∈ l.take got.length, ∃ v, g a = some v
  | [], got, h, a, ha => by simp at ha
  | q :: r, got, h, a, ha => by
    unfold pvAll at h
    cases hq : g q with
    | none => rw [hq] at h; cases h
    | some v =>
      rw [hq] at h
      simp only at h
      by_cases hs : stop = true ∧ v ≠ 0
      · rw [if_pos hs] at h
        injection h with h
        subst h
        simp at ha
        exact ⟨v, by rw [ha]; exact hq⟩
      · rw [if_neg hs] at h
        obtain ⟨vs, hvs, rfl⟩ := Option.map_eq_some_iff.1 h
        simp at ha
        rcases ha with rfl | ha
        · exact ⟨v, hq⟩
        · exact pvAll_some hvs a ha
theorem pvAll_len {g : Int → Option Int} {stop : Bool} : ∀ {l got : List Int}, pvAll g stop l = some got → got.length ≤ l.length
  | [], got, h => by simp [pvAll] at h; simp [h]
  | q :: r, got, h => by
    unfold pvAll at h
    cases hq : g q with
    | none => rw [hq] at h; cases h
    | some v =>
      rw [hq] at h
      simp only at h
      by_cases hs : stop = true ∧ v ≠ 0
      · rw [if_pos hs] at h; injection h with h; subst h; simp
      · rw [if_neg hs] at h
        obtain ⟨vs, hvs, rfl⟩ := Option.map_eq_some_iff.1 h
        have := pvAll_len hvs
        simp; omega
/-- Of two ways through a list that agree up to a place, the other one comes to that place too. -/
theorem pvAll_next {g g' : Int → Option Int} {stop : Bool} : ∀ {l got : List Int}, pvAll g stop l = some got → (pvAll g' stop l).isSome = true → ∀ n, n < got.length → (∀ i, i < n → ∀ u, g' (l.getD i 0) = some u → g (l.getD i 0) = some u) → (g' (l.getD n 0)).isSome = true
  | [], got, h, _, n, hn, _ => by simp [pvAll] at h; subst h; simp at hn
  | q :: r, got, h, h', n, hn, ha => by
    unfold pvAll at h h'
    cases hq' : g' q with
    | none => rw [hq'] at h'; simp at h'
    | some u =>
      cases n with
      | zero => simpa using (by rw [hq']; rfl : (g' q).isSome = true)
      | succ n =>
        have hu := ha 0 (by omega) u (by simpa using hq')
        simp only [List.getD_cons_zero] at hu
        rw [hu] at h
        rw [hq'] at h'
        simp only at h h'
        by_cases hs : stop = true ∧ u ≠ 0
        · rw [if_pos hs] at h
          injection h with h
          subst h
          simp at hn
        · rw [if_neg hs] at h h'
          obtain ⟨vs, hvs, rfl⟩ := Option.map_eq_some_iff.1 h
          rw [Option.isSome_map] at h'
          simpa using pvAll_next hvs h' n (by simpa using hn) (fun i hi u hu => by simpa using ha (i + 1) (by omega) u (by simpa using hu))
theorem pvRule_agree {g g' : Int → Option Int} {r : QRule} {v : Int} {asked : List Int} (h : pvRule g r = some (v, asked)) (ha : ∀ a ∈ asked, ∀ u, g a = some u → g' a = some u) : pvRule g' r = some (v, asked) := by
  unfold pvRule at h ⊢
  by_cases hk : r.kind = 3
  · rw [if_pos hk] at h ⊢
    cases h0 : g (r.asks.getD 0 0) with
    | none => rw [h0] at h; cases h
    | some x =>
      rw [h0] at h
      simp only at h
      obtain ⟨u, hu, he⟩ := Option.map_eq_some_iff.1 h
      injection he with h1 h2
      subst h2
      rw [ha _ (by simp) x h0]
      simp only
      rw [ha _ (by simp) u hu, ← h1]
      rfl
  · rw [if_neg hk] at h ⊢
    obtain ⟨got, hgot, he⟩ := Option.map_eq_some_iff.1 h
    injection he with h1 h2
    subst h2
    rw [pvAll_agree hgot ha, ← h1]
    rfl
theorem pvRule_some {g : Int → Option Int} {r : QRule} {v : Int} {asked : List Int} (h : pvRule g r = some (v, asked)) : ∀ a ∈ asked, ∃ v, g a = some v := by
  unfold pvRule at h
  by_cases hk : r.kind = 3
  · rw [if_pos hk] at h
    cases h0 : g (r.asks.getD 0 0) with
    | none => rw [h0] at h; cases h
    | some x =>
      rw [h0] at h
      simp only at h
      obtain ⟨u, hu, he⟩ := Option.map_eq_some_iff.1 h
      injection he with h1 h2
      subst h2
      intro a ha
      simp at ha
      rcases ha with rfl | rfl
      · exact ⟨x, by simpa using h0⟩
      · exact ⟨u, hu⟩
  · rw [if_neg hk] at h
    obtain ⟨got, hgot, he⟩ := Option.map_eq_some_iff.1 h
    injection he with h1 h2
    subst h2
    exact pvAll_some hgot
theorem pvRule_next {g g' : Int → Option Int} {r : QRule} {v : Int} {asked : List Int} (h : pvRule g r = some (v, asked)) (h' : (pvRule g' r).isSome = true) (n : Nat) (hn : n < asked.length) (ha : ∀ i, i < n → ∀ u, g' (asked.getD i 0) = some u → g (asked.getD i 0) = some u) : (g' (asked.getD n 0)).isSome = true := by
  unfold pvRule at h h'
  by_cases hk : r.kind = 3
  · rw [if_pos hk] at h h'
    cases h0 : g (r.asks.getD 0 0) with
    | none => rw [h0] at h; cases h
    | some x =>
      rw [h0] at h
      simp only at h
      obtain ⟨u, hu, he⟩ := Option.map_eq_some_iff.1 h
      injection he with h1 h2
      subst h2
      cases h0' : g' (r.asks.getD 0 0) with
      | none => rw [h0'] at h'; simp at h'
      | some x' =>
        rw [h0'] at h'
        simp only [Option.isSome_map] at h'
        match n, hn with
        | 0, _ => simpa using (by rw [h0']; rfl : (g' (r.asks.getD 0 0)).isSome = true)
        | 1, _ =>
          have := ha 0 (by omega) x' (by simpa using h0')
          simp only [List.getD_cons_zero] at this
          rw [h0] at this
          injection this with this
          subst this
          simpa using h'
  · rw [if_neg hk] at h h'
    obtain ⟨got, hgot, he⟩ := Option.map_eq_some_iff.1 h
    injection he with h1 h2
    subst h2
    rw [Option.isSome_map] at h'
    have hl := pvAll_len hgot
    rw [List.length_take, Nat.min_eq_left hl] at hn
    have hg : ∀ i, i < got.length → (r.asks.take got.length).getD i 0 = r.asks.getD i 0 := fun i hi => by
      rw [List.getD_eq_getElem?_getD, List.getElem?_take, if_pos hi, List.getD_eq_getElem?_getD]
    rw [hg n hn]
    refine pvAll_next hgot h' n hn (fun i hi u hu => ?_)
    have := ha i hi u (by rw [hg i (by omega)]; exact hu)
    rwa [hg i (by omega)] at this
section
variable {rules : List QRule} {inp : List Int}
theorem pv_succ : ∀ {f : Nat} {q v : Int}, pv rules inp f q = some v → pv rules inp (f + 1) q = some v
  | 0, q, v, h => by cases h
  | f + 1, q, v, h => by
    unfold pv at h ⊢
    by_cases hk : (rules.getD q.toNat default).kind = 1
    · rw [if_pos hk] at h ⊢; exact h
    · rw [if_neg hk] at h ⊢
      obtain ⟨⟨x, asked⟩, hx, he⟩ := Option.map_eq_some_iff.1 h
      rw [pvRule_agree hx (fun a _ u hu => pv_succ hu)]
      exact congrArg some he
theorem pv_mono {f f' : Nat} (h : f ≤ f') {q v : Int} (hv : pv rules inp f q = some v) : pv rules inp f' q = some v := by
  induction h with
  | refl => exact hv
  | step _ ih => exact pv_succ ih
theorem pv_unique {f f' : Nat} {q v v' : Int} (h : pv rules inp f q = some v) (h' : pv rules inp f' q = some v') : v = v' := by
  have h1 := pv_mono (Nat.le_max_left f f') h
  have h2 := pv_mono (Nat.le_max_right f f') h'
  rw [h1] at h2
  injection h2
theorem Val.unique {q v v' : Int} (h : Val rules inp q v) (h' : Val rules inp q v') : v = v' := by
  obtain ⟨f, hf⟩ := h
  obtain ⟨f', hf'⟩ := h'
  exact pv_unique hf hf'
theorem pvAll_mono {f f' : Nat} (h : f ≤ f') {stop : Bool} {l got : List Int} (hv : pvAll (pv rules inp f) stop l = some got) : pvAll (pv rules inp f') stop l = some got := pvAll_agree hv (fun _ _ _ hu => pv_mono h hu)
theorem pvRule_mono {f f' : Nat} (h : f ≤ f') {r : QRule} {x : Int × List Int} (hv : pvRule (pv rules inp f) r = some x) : pvRule (pv rules inp f') r = some x := pvRule_agree hv (fun _ _ _ hu => pv_mono h hu)
theorem pv_input {q : Int} (hk : (rules.getD q.toNat default).kind = 1) (f : Nat) : pv rules inp (f + 1) q = some (inp.getD q.toNat 0) := by unfold pv; rw [if_pos hk]
theorem pv_rule {q : Int} (hk : (rules.getD q.toNat default).kind ≠ 1) (f : Nat) : pv rules inp (f + 1) q = (pvRule (pv rules inp f) (rules.getD q.toNat default)).map (·.1) := by
  show (if _ then _ else _) = _
  rw [if_neg hk]
/-- A value comes by a rule of less fuel. -/
theorem pv_down {q : Int} (hk : (rules.getD q.toNat default).kind ≠ 1) {f : Nat} {v : Int} (h : pv rules inp f q = some v) : ∃ g, g < f ∧ (pvRule (pv rules inp g) (rules.getD q.toNat default)).isSome = true := by
  cases f with
  | zero => cases h
  | succ f =>
    rw [pv_rule hk] at h
    obtain ⟨x, hx, _⟩ := Option.map_eq_some_iff.1 h
    exact ⟨f, by omega, by rw [hx]; rfl⟩
end
end Go.Proofs.QM
