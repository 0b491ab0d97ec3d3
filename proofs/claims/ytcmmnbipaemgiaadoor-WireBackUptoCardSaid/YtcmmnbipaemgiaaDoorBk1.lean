/-
  The plain law of layer 30 (wire): blanks outside of strings mean nothing. No program in sight; no condition.
-/
import Derived.Test.YtcmmnbipaemgiaaDoorAl0
import Derived.ChangeSlices
import Derived.ChangeArms
import Derived.Carry
namespace Go.Proofs.WM

/-- Without the blanks that stand outside of strings; 'true': inside of one. -/
def bareB : Bool → Bs → Bs
  | _, [] => []
  | false, c :: r => if isBlank c then bareB false r else if c = 34 then c :: bareB true r else c :: bareB false r
  | true, [c] => [c]
  | true, c :: d :: r => if c = 92 then c :: d :: bareB true r else if c = 34 then c :: bareB false (d :: r) else c :: bareB true (d :: r)
theorem bare_nil (b : Bool) : bareB b [] = [] := by cases b <;> rfl
theorem bare_blank {c : UInt8} (h : isBlank c = true) (r : Bs) : bareB false (c :: r) = bareB false r := by
  show (if isBlank c then _ else _) = _
  rw [if_pos h]
theorem bare_quote (r : Bs) : bareB false (34 :: r) = 34 :: bareB true r := rfl
theorem bare_plain {c : UInt8} (h : isBlank c = false) (h2 : c ≠ 34) (r : Bs) : bareB false (c :: r) = c :: bareB false r := by
  show (if isBlank c then _ else if c = 34 then _ else _) = _
  rw [if_neg (by rw [h]; decide), if_neg h2]
theorem bare_end (r : Bs) : bareB true (34 :: r) = 34 :: bareB false r := by
  cases r with
  | nil => rfl
  | cons d r => rfl
theorem bare_esc (d : UInt8) (r : Bs) : bareB true (92 :: d :: r) = 92 :: d :: bareB true r := rfl
theorem bare_in {c : UInt8} (h : c ≠ 92) (h2 : c ≠ 34) (r : Bs) : bareB true (c :: r) = c :: bareB true r := by
  cases r with
  | nil => rfl
  | cons d r =>
    show (if c = 92 then _ else if c = 34 then _ else _) = _
    rw [if_neg h, if_neg h2]
theorem bare_blanks : ∀ r : Bs, bareB false (blanksB r) = bareB false r
  | [] => rfl
  | c :: r => by
    unfold blanksB
    split
    · rename_i h; rw [bare_blank h]; exact bare_blanks r
    · rfl
theorem blanksB_head : ∀ {r : Bs} {c : UInt8} {q : Bs}, blanksB r = c :: q → isBlank c = false
  | [], c, q, h => by cases h
  | d :: r, c, q, h => by
    unfold blanksB at h
    split at h
    · exact blanksB_head h
    · rename_i hd; injection h with h _; subst h; simpa using hd
theorem bare_cons {r : Bs} {c : UInt8} {q : Bs} (h : blanksB r = c :: q) : ∃ q', bareB false r = c :: q' := by
  rw [← bare_blanks, h]
  by_cases h2 : c = 34
  · subst h2; exact ⟨_, rfl⟩
  · exact ⟨_, bare_plain (blanksB_head h) h2 q⟩
theorem blanks_bare (r : Bs) : blanksB (bareB false r) = bareB false r := by
  rcases h : blanksB r with _ | ⟨c, q⟩
  · rw [← bare_blanks, h]; rfl
  · obtain ⟨q', e⟩ := bare_cons h
    rw [e, blanksB_stop (blanksB_head h)]
theorem starts_bare {r : Bs} (h : startsDigit (blanksB r) = false) : startsDigit (bareB false r) = false := by
  rcases hb : blanksB r with _ | ⟨c, q⟩
  · rw [← bare_blanks, hb]; rfl
  · obtain ⟨q', e⟩ := bare_cons hb
    rw [e]
    rw [hb] at h
    exact h
def Clear (w : Bs) : Prop := ∀ c ∈ w, isBlank c = false ∧ c ≠ 34
instance (w : Bs) : Decidable (Clear w) := inferInstanceAs (Decidable (∀ c ∈ w, isBlank c = false ∧ c ≠ 34))
theorem wordB_bare : ∀ (w r r' : Bs), Clear w → wordB w r = .ok r' → wordB w (bareB false r) = .ok (bareB false r')
  | [], r, r', _, h => by unfold wordB at h; injection h with h; subst h; unfold wordB; rfl
  | c :: w, [], r', _, h => by unfold wordB at h; cases h
  | c :: w, d :: r, r', hc, h => by
    unfold wordB at h
    split at h
    · rename_i e
      subst e
      obtain ⟨h1, h2⟩ := hc d List.mem_cons_self
      rw [bare_plain h1 h2]
      unfold wordB
      rw [if_pos rfl]
      exact wordB_bare w r r' (fun c hc' => hc c (List.mem_cons_of_mem _ hc')) h
    · cases h
theorem digit_clear {c : UInt8} (h : isDigit c = true) : isBlank c = false ∧ c ≠ 34 := by
  have : ∀ i : Fin 256, isDigit (UInt8.ofNat i.val) = true → isBlank (UInt8.ofNat i.val) = false ∧ UInt8.ofNat i.val ≠ 34 := by decide +kernel
  have h2 := this ⟨c.toNat, c.toNat_lt⟩
  simp only at h2
  rw [← u8_of] at h2
  exact h2 h
theorem numB_first {m first : Bool} {n : Nat} {x : Bs} (hx : startsDigit x = false) : numB m first n x = .ok (n, x) := by
  cases x with
  | nil => rfl
  | cons c r => unfold numB; rw [if_neg (by simpa [startsDigit] using hx)]
theorem numB_bare {m : Bool} : ∀ (r : Bs) (first : Bool) (n k : Nat) (r' : Bs), numB m first n r = .ok (k, r') → startsDigit (blanksB r') = false → numB m first n (bareB false r) = .ok (k, bareB false r')
  | [], first, n, k, r', h, _ => by unfold numB at h; injection h with h; injection h with h1 h2; subst h1; subst h2; rfl
  | c :: r, first, n, k, r', h, hs => by
    unfold numB at h
    split at h
    · rename_i hd
      split at h
      · cases h
      · rename_i hn
        obtain ⟨h1, h2⟩ := digit_clear hd
        rw [bare_plain h1 h2]
        unfold numB
        rw [if_pos hd, if_neg hn]
        exact numB_bare r false _ k r' h hs
    · injection h with h; injection h with h1 h2; subst h1; subst h2
      exact numB_first (starts_bare hs)
theorem digitsB_bare {m : Bool} {r r' : Bs} {k : Nat} (h : digitsB m r = .ok (k, r')) (hs : startsDigit (blanksB r') = false) : digitsB m (bareB false r) = .ok (k, bareB false r') := by
  unfold digitsB at h ⊢
  split at h
  · rename_i hd
    have : startsDigit (bareB false r) = true := by
      cases r with
      | nil => cases hd
      | cons c r => obtain ⟨h1, h2⟩ := digit_clear (c := c) hd; rw [bare_plain h1 h2]; exact hd
    rw [if_pos this]
    exact numB_bare r true 0 k r' h hs
  · cases h
theorem intB_minus (q : Bs) : intB (45 :: q) = match digitsB true q with
    | .ok (n, r1) => .ok (-(n : Int), r1)
    | .error e => .error e := rfl
theorem escB_cons (c : UInt8) (r : Bs) : escB (c :: r) = match shortB c with
    | some b => .ok (b, r)
    | none => if c = 117 then (match hexB4 4 0 r with
      | .ok (n, r1) => .ok (UInt8.ofNat n, r1)
      | .error e => .error e) else .error (r.length + 1) := rfl
theorem intB_bare {r r' : Bs} {n : Int} (h : intB r = .ok (n, r')) (hs : startsDigit (blanksB r') = false) : intB (bareB false r) = .ok (n, bareB false r') := by
  unfold intB at h
  split at h
  · rename_i q
    rcases hd : digitsB true q with e | ⟨k, r1⟩
    · rw [hd] at h; cases h
    · rw [hd] at h; injection h with h; injection h with h1 h2; subst h1; subst h2
      rw [bare_plain (by decide) (by decide), intB_minus, digitsB_bare hd hs]
  · rename_i hne
    rcases hd : digitsB false r with e | ⟨k, r1⟩
    · rw [hd] at h; cases h
    · rw [hd] at h; injection h with h; injection h with h1 h2; subst h1; subst h2
      have hb := digitsB_bare hd hs
      unfold intB
      split
      · rename_i q hq
        rw [hq] at hb
        unfold digitsB at hb
        rw [if_neg (by simp [startsDigit]; decide)] at hb
        cases hb
      · rw [hb]
theorem hexB4_bare : ∀ (k n : Nat) (r r' : Bs) (m : Nat), hexB4 k n r = .ok (m, r') → hexB4 k n (bareB true r) = .ok (m, bareB true r')
  | 0, n, r, r', m, h => by unfold hexB4 at h ⊢; injection h with h; injection h with h1 h2; subst h1; subst h2; rfl
  | k + 1, n, [], r', m, h => by unfold hexB4 at h; cases h
  | k + 1, n, c :: r, r', m, h => by
    unfold hexB4 at h
    rcases hd : hexD c with _ | d
    · rw [hd] at h; cases h
    · rw [hd] at h
      simp only at h
      split at h
      · cases h
      · rename_i hn
        have h1 : c ≠ 92 := fun e => by subst e; cases hd
        have h2 : c ≠ 34 := fun e => by subst e; cases hd
        rw [bare_in h1 h2]
        unfold hexB4
        rw [hd]
        simp only
        rw [if_neg hn]
        exact hexB4_bare k _ r r' m h
theorem strGo_bare : ∀ (f : Nat) (acc r s r' : Bs), strGo f acc r = .ok (s, r') → ∀ f', (bareB true r).length < f' → strGo f' acc (bareB true r) = .ok (s, bareB false r')
  | 0, acc, r, s, r', h, _, _ => by unfold strGo at h; cases h
  | f + 1, acc, [], s, r', h, _, _ => by unfold strGo at h; cases h
  | f + 1, acc, c :: r, s, r', h, 0, hf => by omega
  | f + 1, acc, c :: r, s, r', h, f' + 1, hf => by
    unfold strGo at h
    split at h
    · rename_i hc
      injection h with h; injection h with h1 h2; subst h1; subst h2; subst hc
      rw [bare_end]
      unfold strGo
      rw [if_pos rfl]
    · rename_i hc
      split at h
      · cases h
      · rename_i h32
        split at h
        · rename_i h92
          subst h92
          rcases hd : escB r with e | ⟨b, r1⟩
          · rw [hd] at h; cases h
          · rw [hd] at h
            simp only at h
            cases r with
            | nil => unfold escB at hd; cases hd
            | cons d r =>
              rw [bare_esc] at hf ⊢
              have key : escB (d :: bareB true r) = .ok (b, bareB true r1) := by
                rw [escB_cons] at hd ⊢
                rcases hs : shortB d with _ | x
                · rw [hs] at hd
                  simp only at hd ⊢
                  split at hd
                  · rename_i h117
                    rw [if_pos h117]
                    rcases hx : hexB4 4 0 r with e | ⟨n, r2⟩
                    · rw [hx] at hd; cases hd
                    · rw [hx] at hd
                      injection hd with hd; injection hd with h1 h2; subst h1; subst h2
                      rw [hexB4_bare 4 0 r _ n hx]
                  · cases hd
                · rw [hs] at hd
                  injection hd with hd; injection hd with h1 h2; subst h1; subst h2
                  rfl
              unfold strGo
              rw [if_neg (by decide), if_neg (by decide), if_pos rfl, key]
              simp only
              have hl := escB_len key
              refine strGo_bare f _ r1 s r' h f' ?_
              simp only [List.length_cons] at hf hl
              omega
        · rename_i h92
          rw [bare_in h92 hc] at hf ⊢
          unfold strGo
          rw [if_neg hc, if_neg h32, if_neg h92]
          refine strGo_bare f _ r s r' h f' ?_
          simp only [List.length_cons] at hf
          omega
theorem strB_bare {r s r' : Bs} (h : strB r = .ok (s, r')) : strB (bareB false r) = .ok (s, bareB false r') := by
  unfold strB at h
  rcases hw : wordB [34] r with e | r1
  · rw [hw] at h; cases h
  · rw [hw] at h
    have e := wordB_len _ _ _ hw
    subst e
    rw [List.singleton_append, bare_quote]
    unfold strB
    have : wordB [34] (34 :: bareB true r1) = .ok (bareB true r1) := by simp [wordB]
    rw [this]
    exact strGo_bare _ _ _ _ _ h _ (Nat.lt_succ_self _)
theorem keyB_bare {ks : List ByteArray} {r r' : Bs} {k : ByteArray} (h : keyB ks r = .ok (k, r')) : keyB ks (bareB false r) = .ok (k, bareB false r') := by
  unfold keyB at h
  rcases hs : strB r with e | ⟨s, r1⟩
  · rw [hs] at h; cases h
  · rw [hs] at h
    simp only at h
    split at h
    · cases h
    · rename_i hk
      rcases hw : wordB [58] (blanksB r1) with e | r2
      · rw [hw] at h; cases h
      · rw [hw] at h
        injection h with h; injection h with h1 h2; subst h1; subst h2
        unfold keyB
        rw [strB_bare hs]
        simp only
        rw [if_neg hk]
        have := wordB_bare _ _ _ (by decide) hw
        rw [bare_blanks] at this
        rw [blanks_bare, this]
        simp only
        rw [blanks_bare, bare_blanks]
theorem moreB_bare {c : UInt8} (hc : c = 93 ∨ c = 125) {r r' : Bs} : (moreB c r = .done r' → moreB c (bareB false r) = .done (bareB false r') ∧ startsDigit (blanksB r) = false) ∧ (moreB c r = .more r' → moreB c (bareB false r) = .more (bareB false r') ∧ startsDigit (blanksB r) = false) := by
  have hcl : isBlank c = false ∧ c ≠ 34 ∧ isDigit c = false := by rcases hc with rfl | rfl <;> decide
  constructor
  · intro h
    unfold moreB at h
    rcases hb : blanksB r with _ | ⟨d, q⟩
    · rw [hb] at h; cases h
    · rw [hb] at h
      simp only at h
      split at h
      · rename_i e
        subst e
        injection h with h; subst h
        refine ⟨?_, hcl.2.2⟩
        unfold moreB
        rw [blanks_bare, ← bare_blanks, hb, bare_plain hcl.1 hcl.2.1]
        simp
      · split at h <;> cases h
  · intro h
    unfold moreB at h
    rcases hb : blanksB r with _ | ⟨d, q⟩
    · rw [hb] at h; cases h
    · rw [hb] at h
      simp only at h
      split at h
      · cases h
      · rename_i hne
        split at h
        · rename_i e
          subst e
          injection h with h; subst h
          refine ⟨?_, by rfl⟩
          unfold moreB
          rw [blanks_bare, ← bare_blanks r, hb, bare_plain (by decide) (by decide)]
          simp only
          rw [if_neg hne, blanks_bare, bare_blanks]
          simp
        · cases h
theorem openB_bare {c : UInt8} (hc : c = 93 ∨ c = 125) {r : Bs} : openB c (bareB false r) = (openB c r).map (bareB false) := by
  have hcl : isBlank c = false ∧ c ≠ 34 := by rcases hc with rfl | rfl <;> decide
  unfold openB
  rw [blanks_bare]
  rcases hb : blanksB r with _ | ⟨d, q⟩
  · rw [← bare_blanks, hb]; rfl
  · by_cases e : d = c
    · subst e
      rw [← bare_blanks, hb, bare_plain hcl.1 hcl.2]
      simp
    · obtain ⟨q', e'⟩ := bare_cons hb
      rw [e']
      simp [e]
theorem read_bare : ∀ f : Nat,
    (∀ deep r v r', valueF f deep r = .ok (v, r') → startsDigit (blanksB r') = false → valueF f deep (bareB false r) = .ok (v, bareB false r')) ∧
    (∀ deep r v r', innerF f deep r = .ok (v, r') → startsDigit (blanksB r') = false → innerF f deep (bareB false r) = .ok (v, bareB false r')) ∧
    (∀ deep acc r vs r', itemsF f deep acc r = .ok (vs, r') → itemsF f deep acc (bareB false r) = .ok (vs, bareB false r')) ∧
    (∀ deep ks vs r x r', pairsF f deep ks vs r = .ok (x, r') → pairsF f deep ks vs (bareB false r) = .ok (x, bareB false r')) := by
  intro f
  induction f with
  | zero =>
    refine ⟨fun deep r v r' h => ?_, fun deep r v r' h => ?_, fun deep acc r vs r' h => ?_, fun deep ks vs r x r' h => ?_⟩
    · unfold valueF at h; cases h
    · unfold innerF at h; cases h
    · unfold itemsF at h; cases h
    · unfold pairsF at h; cases h
  | succ f ih =>
    obtain ⟨ihV, ihI, ihL, ihP⟩ := ih
    refine ⟨fun deep r v r' h hs => ?_, fun deep r v r' h hs => ?_, fun deep acc r vs r' h => ?_, fun deep ks vs r x r' h => ?_⟩
    · cases r with
      | nil => unfold valueF at h; cases h
      | cons c q =>
        unfold valueF at h
        split at h
        · rename_i hc
          rcases hw : wordB [110, 117, 108, 108] (c :: q) with e | r1
          · rw [hw] at h; cases h
          · rw [hw] at h; injection h with h; injection h with h1 h2; subst h1; subst h2
            have := wordB_bare _ _ _ (by decide) hw
            subst hc
            rw [bare_plain (by decide) (by decide)] at this ⊢
            unfold valueF
            rw [if_pos rfl, this]
        rename_i n1
        split at h
        · rename_i hc
          rcases hw : wordB [116, 114, 117, 101] (c :: q) with e | r1
          · rw [hw] at h; cases h
          · rw [hw] at h; injection h with h; injection h with h1 h2; subst h1; subst h2
            have := wordB_bare _ _ _ (by decide) hw
            subst hc
            rw [bare_plain (by decide) (by decide)] at this ⊢
            unfold valueF
            rw [if_neg n1, if_pos rfl, this]
        rename_i n2
        split at h
        · rename_i hc
          rcases hw : wordB [102, 97, 108, 115, 101] (c :: q) with e | r1
          · rw [hw] at h; cases h
          · rw [hw] at h; injection h with h; injection h with h1 h2; subst h1; subst h2
            have := wordB_bare _ _ _ (by decide) hw
            subst hc
            rw [bare_plain (by decide) (by decide)] at this ⊢
            unfold valueF
            rw [if_neg n1, if_neg n2, if_pos rfl, this]
        rename_i n3
        split at h
        · rename_i hc
          rcases hw : strB (c :: q) with e | ⟨s, r1⟩
          · rw [hw] at h; cases h
          · rw [hw] at h; injection h with h; injection h with h1 h2; subst h1; subst h2
            have := strB_bare hw
            subst hc
            rw [bare_quote] at this ⊢
            unfold valueF
            rw [if_neg n1, if_neg n2, if_neg n3, if_pos rfl, this]
        rename_i n4
        split at h
        · rename_i hc
          rcases hw : intB (c :: q) with e | ⟨n, r1⟩
          · rw [hw] at h; cases h
          · rw [hw] at h; injection h with h; injection h with h1 h2; subst h1; subst h2
            have := intB_bare hw hs
            have hcl : isBlank c = false ∧ c ≠ 34 := by
              rcases hc with rfl | hc
              · decide
              · exact digit_clear hc
            rw [bare_plain hcl.1 hcl.2] at this ⊢
            unfold valueF
            rw [if_neg n1, if_neg n2, if_neg n3, if_neg n4, if_pos hc, this]
        rename_i n5
        split at h
        · rename_i hc
          subst hc
          rw [bare_plain (by decide) (by decide)]
          unfold valueF
          rw [if_neg n1, if_neg n2, if_neg n3, if_neg n4, if_neg n5, if_pos rfl, openB_bare (.inl rfl)]
          rcases ho : openB 93 q with _ | r1
          · rw [ho] at h
            simp only at h
            rcases hi : itemsF f deep [] (blanksB q) with e | ⟨vs, r1⟩
            · rw [hi] at h; cases h
            · rw [hi] at h; injection h with h; injection h with h1 h2; subst h1; subst h2
              have := ihL _ _ _ _ _ hi
              rw [bare_blanks] at this
              simp only [Option.map_none]
              rw [blanks_bare, this]
          · rw [ho] at h; injection h with h; injection h with h1 h2; subst h1; subst h2
            rfl
        rename_i n6
        split at h
        · rename_i hc
          subst hc
          rw [bare_plain (by decide) (by decide)]
          unfold valueF
          rw [if_neg n1, if_neg n2, if_neg n3, if_neg n4, if_neg n5, if_neg n6, if_pos rfl, openB_bare (.inr rfl)]
          rcases ho : openB 125 q with _ | r1
          · rw [ho] at h
            simp only at h
            rcases hi : pairsF f deep [] [] (blanksB q) with e | ⟨⟨ks, vs⟩, r1⟩
            · rw [hi] at h; cases h
            · rw [hi] at h; injection h with h; injection h with h1 h2; subst h1; subst h2
              have := ihP _ _ _ _ _ _ hi
              rw [bare_blanks] at this
              simp only [Option.map_none]
              rw [blanks_bare, this]
          · rw [ho] at h; injection h with h; injection h with h1 h2; subst h1; subst h2
            rfl
        · cases h
    · unfold innerF at h ⊢
      split at h
      · cases h
      · rename_i hd
        rw [if_neg hd]
        exact ihV _ _ _ _ h hs
    · unfold itemsF at h ⊢
      rcases hi : innerF f deep r with e | ⟨v, r1⟩
      · rw [hi] at h; cases h
      · rw [hi] at h
        simp only at h
        rcases hm : moreB 93 r1 with r2 | r2 | e
        · rw [hm] at h; injection h with h; injection h with h1 h2; subst h1; subst h2
          obtain ⟨hb, hs⟩ := (moreB_bare (.inl rfl)).1 hm
          rw [ihI _ _ _ _ hi hs]
          simp only
          rw [hb]
        · rw [hm] at h
          obtain ⟨hb, hs⟩ := (moreB_bare (.inl rfl)).2 hm
          rw [ihI _ _ _ _ hi hs]
          simp only
          rw [hb]
          exact ihL _ _ _ _ _ h
        · rw [hm] at h; cases h
    · unfold pairsF at h ⊢
      rcases hk : keyB ks r with e | ⟨k, r0⟩
      · rw [hk] at h; cases h
      · rw [hk] at h
        simp only at h
        rw [keyB_bare hk]
        simp only
        rcases hi : innerF f deep r0 with e | ⟨v, r1⟩
        · rw [hi] at h; cases h
        · rw [hi] at h
          simp only at h
          rcases hm : moreB 125 r1 with r2 | r2 | e
          · rw [hm] at h; injection h with h; injection h with h1 h2; subst h1; subst h2
            obtain ⟨hb, hs⟩ := (moreB_bare (.inr rfl)).1 hm
            rw [ihI _ _ _ _ hi hs]
            simp only
            rw [hb]
          · rw [hm] at h
            obtain ⟨hb, hs⟩ := (moreB_bare (.inr rfl)).2 hm
            rw [ihI _ _ _ _ hi hs]
            simp only
            rw [hb]
            exact ihP _ _ _ _ _ _ h
          · rw [hm] at h; cases h
/-- Fuel that is enough changes nothing. -/
theorem fuel_V : ∀ f : Nat,
    (∀ f' deep r, 3 * r.length + 1 ≤ f → 3 * r.length + 1 ≤ f' → valueF f deep r = valueF f' deep r) ∧
    (∀ f' deep r, 3 * r.length + 2 ≤ f → 3 * r.length + 2 ≤ f' → innerF f deep r = innerF f' deep r) ∧
    (∀ f' deep acc r, 3 * r.length + 3 ≤ f → 3 * r.length + 3 ≤ f' → itemsF f deep acc r = itemsF f' deep acc r) ∧
    (∀ f' deep ks vs r, 3 * r.length + 3 ≤ f → 3 * r.length + 3 ≤ f' → pairsF f deep ks vs r = pairsF f' deep ks vs r) := by
  intro f
  induction f with
  | zero => exact ⟨fun _ _ _ h => by omega, fun _ _ _ h => by omega, fun _ _ _ _ h => by omega, fun _ _ _ _ _ h => by omega⟩
  | succ f ih =>
    obtain ⟨ihV, ihI, ihL, ihP⟩ := ih
    refine ⟨fun f' deep r h h' => ?_, fun f' deep r h h' => ?_, fun f' deep acc r h h' => ?_, fun f' deep ks vs r h h' => ?_⟩
    · obtain ⟨g, rfl⟩ : ∃ g, f' = g + 1 := ⟨f' - 1, by omega⟩
      cases r with
      | nil => unfold valueF; rfl
      | cons c q =>
        simp only [List.length_cons] at h h'
        have hb := blanksB_le q
        unfold valueF
        rw [ihL g deep [] (blanksB q) (by omega) (by omega), ihP g deep [] [] (blanksB q) (by omega) (by omega)]
    · obtain ⟨g, rfl⟩ : ∃ g, f' = g + 1 := ⟨f' - 1, by omega⟩
      unfold innerF
      rw [ihV g (deep - 1) r (by omega) (by omega)]
    · obtain ⟨g, rfl⟩ : ∃ g, f' = g + 1 := ⟨f' - 1, by omega⟩
      unfold itemsF
      rw [ihI g deep r (by omega) (by omega)]
      rcases hi : innerF g deep r with e | ⟨v, r1⟩
      · rfl
      · simp only
        have hl := ((read_ok g).2.1 _ _ _ _ hi).2.1
        rcases hm : moreB 93 r1 with r2 | r2 | e
        · rfl
        · have := moreB_len (.inr hm)
          simp only
          exact ihL g deep _ r2 (by omega) (by omega)
        · rfl
    · obtain ⟨g, rfl⟩ : ∃ g, f' = g + 1 := ⟨f' - 1, by omega⟩
      unfold pairsF
      rcases hk : keyB ks r with e | ⟨k, r0⟩
      · rfl
      · simp only
        have hkl := (keyB_len hk).1
        rw [ihI g deep r0 (by omega) (by omega)]
        rcases hi : innerF g deep r0 with e | ⟨v, r1⟩
        · rfl
        · simp only
          have hl := ((read_ok g).2.1 _ _ _ _ hi).2.1
          rcases hm : moreB 125 r1 with r2 | r2 | e
          · rfl
          · have := moreB_len (.inr hm)
            simp only
            exact ihP g deep _ _ r2 (by omega) (by omega)
          · rfl
theorem bare_le : ∀ (b : Bool) (r : Bs), (bareB b r).length ≤ r.length
  | b, [] => by rw [bare_nil]; exact Nat.le_refl _
  | false, c :: r => by
    show (if isBlank c then bareB false r else if c = 34 then c :: bareB true r else c :: bareB false r).length ≤ _
    have h1 := bare_le false r
    have h2 := bare_le true r
    split
    · exact Nat.le_succ_of_le h1
    · split
      · exact Nat.succ_le_succ h2
      · exact Nat.succ_le_succ h1
  | true, [c] => Nat.le_refl _
  | true, c :: d :: r => by
    show (if c = 92 then c :: d :: bareB true r else if c = 34 then c :: bareB false (d :: r) else c :: bareB true (d :: r)).length ≤ _
    have h1 := bare_le true r
    have h2 := bare_le false (d :: r)
    have h3 := bare_le true (d :: r)
    split
    · exact Nat.succ_le_succ (Nat.succ_le_succ h1)
    · split
      · exact Nat.succ_le_succ h2
      · exact Nat.succ_le_succ h3
/-- BLANKS MEAN NOTHING. -/
theorem readJ_bare {t : Bs} {v : J} (h : readJ t = .ok v) : readJ (bareB false t) = .ok v := by
  unfold readJ at h ⊢
  rcases hv : valueF (4 * t.length + 8) 40 (blanksB t) with e | ⟨w, r⟩
  · rw [hv] at h; cases h
  · rw [hv] at h
    simp only at h
    rcases hr : blanksB r with _ | ⟨c, q⟩
    · rw [hr] at h
      injection h with h; subst h
      have hb := (read_bare _).1 _ _ _ _ hv (by rw [hr]; rfl)
      rw [bare_blanks] at hb
      have hl := bare_le false t
      rw [blanks_bare, (fuel_V _).1 (4 * t.length + 8) 40 (bareB false t) (by omega) (by omega), hb]
      simp only
      rw [blanks_bare, ← bare_blanks, hr]
      rfl
    · rw [hr] at h; cases h
theorem bare_esc1 (c : UInt8) (x : Bs) : bareB true (esc c ++ x) = esc c ++ bareB true x := by
  unfold esc
  split
  · exact bare_esc _ _
  · rename_i hc
    simp only [not_or] at hc
    split
    · exact bare_esc _ _
    · split
      · have hh : ∀ i : Fin 256, (hexB (UInt8.ofNat i.val / 16) ≠ 92 ∧ hexB (UInt8.ofNat i.val / 16) ≠ 34) ∧ (hexB (UInt8.ofNat i.val % 16) ≠ 92 ∧ hexB (UInt8.ofNat i.val % 16) ≠ 34) := by decide +kernel
        have h2 := hh ⟨c.toNat, c.toNat_lt⟩
        simp only at h2
        rw [← u8_of] at h2
        simp only [List.cons_append, List.nil_append]
        rw [bare_esc, bare_in (by decide) (by decide), bare_in (by decide) (by decide), bare_in h2.1.1 h2.1.2, bare_in h2.2.1 h2.2.2]
      · exact bare_in hc.2 hc.1 x
theorem bare_quoteB (s x : Bs) : bareB false (quoteB s ++ x) = quoteB s ++ bareB false x := by
  have key : ∀ s : Bs, bareB true (s.flatMap esc ++ ([34] ++ x)) = s.flatMap esc ++ (34 :: bareB false x) := fun s => by
    induction s with
    | nil => exact bare_end x
    | cons c s ih => rw [List.flatMap_cons, List.append_assoc, bare_esc1, ih, List.append_assoc]
  have e : quoteB s ++ x = 34 :: (s.flatMap esc ++ ([34] ++ x)) := by simp [quoteB]
  rw [e, bare_quote, key]
  simp [quoteB]
theorem bare_clear : ∀ (w x : Bs), Clear w → bareB false (w ++ x) = w ++ bareB false x
  | [], x, _ => rfl
  | c :: w, x, h => by
    obtain ⟨h1, h2⟩ := h c List.mem_cons_self
    rw [List.cons_append, bare_plain h1 h2, bare_clear w x (fun c hc => h c (List.mem_cons_of_mem _ hc))]; rfl
theorem dec_clear (u : Nat) : Clear (Lib.decDigits u) := by
  induction u using Nat.strongRecOn with
  | _ u ih =>
    intro c hc
    by_cases h : u < 10
    · rw [Lib.decDigits_one h] at hc
      simp only [List.mem_singleton] at hc
      subst hc
      exact digit_clear (dig_at h).1
    · rw [decDigits_big h, List.mem_append] at hc
      rcases hc with hc | hc
      · exact ih (u / 10) (by omega) c hc
      · simp only [List.mem_singleton] at hc
        subst hc
        exact digit_clear (dig_at (Nat.mod_lt _ (by decide))).1
theorem itoa_clear (n : Int) : Clear (Lib.itoa n) := by
  unfold Lib.itoa
  split
  · intro c hc
    rcases List.mem_cons.1 hc with rfl | hc
    · decide
    · exact dec_clear _ c hc
  · exact dec_clear _
/-- Parts that stay as they are. -/
def Stays (p : Bs) : Prop := ∀ x, bareB false (p ++ x) = p ++ bareB false x
theorem Stays.append {a b : Bs} (ha : Stays a) (hb : Stays b) : Stays (a ++ b) := fun x => by rw [List.append_assoc, ha, hb, List.append_assoc]
theorem stays_joinC : ∀ l : List Bs, (∀ p ∈ l, Stays p) → Stays (joinC l)
  | [], _ => fun x => rfl
  | a :: l, h => by
    have key : ∀ l : List Bs, (∀ p ∈ l, Stays p) → Stays (l.flatMap (44 :: ·)) := fun l => by
      induction l with
      | nil => exact fun _ x => rfl
      | cons b l ih =>
        intro h
        rw [List.flatMap_cons]
        exact Stays.append (Stays.append (a := [44]) (fun x => bare_clear [44] x (by decide)) (h b List.mem_cons_self)) (ih (fun p hp => h p (List.mem_cons_of_mem _ hp)))
    exact Stays.append (h a List.mem_cons_self) (key l (fun p hp => h p (List.mem_cons_of_mem _ hp)))
theorem stays_pairs : ∀ (ks : List ByteArray) (ps : List Bs), (∀ p ∈ ps, Stays p) → ∀ p ∈ List.zipWith (fun q p => quoteB (bl q) ++ [58] ++ p) ks ps, Stays p
  | [], _, _, p, hp => by simp at hp
  | _ :: _, [], _, p, hp => by simp at hp
  | k :: ks, a :: ps, h, p, hp => by
    rw [List.zipWith_cons_cons] at hp
    rcases List.mem_cons.1 hp with rfl | hp
    · exact Stays.append (Stays.append (fun x => bare_quoteB _ x) (fun x => bare_clear [58] x (by decide))) (h a List.mem_cons_self)
    · exact stays_pairs ks ps (fun p hp => h p (List.mem_cons_of_mem _ hp)) p hp
mutual
theorem stays_text : ∀ v : J, Stays (textJ v)
  | .mk k b n t ks vs => by
    have hl := stays_textL vs
    unfold textJ
    split
    · exact fun x => bare_clear _ x (by decide)
    split
    · split
      · exact fun x => bare_clear _ x (by decide)
      · exact fun x => bare_clear _ x (by decide)
    split
    · exact fun x => bare_clear _ x (itoa_clear n)
    split
    · exact fun x => bare_quoteB _ x
    split
    · exact Stays.append (Stays.append (fun x => bare_clear [91] x (by decide)) (stays_joinC _ hl)) (fun x => bare_clear [93] x (by decide))
    · exact Stays.append (Stays.append (fun x => bare_clear [123] x (by decide)) (stays_joinC _ (stays_pairs ks _ hl))) (fun x => bare_clear [125] x (by decide))
theorem stays_textL : ∀ vs : List J, ∀ p ∈ textL vs, Stays p
  | [], p, hp => by simp [textL] at hp
  | v :: r, p, hp => by
    unfold textL at hp
    rcases List.mem_cons.1 hp with rfl | hp
    · exact stays_text v
    · exact stays_textL r p hp
end
/-- A value's text has no blanks outside of strings. -/
theorem bare_textJ (v : J) : bareB false (textJ v) = textJ v := by
  have := stays_text v []
  rwa [List.append_nil, bare_nil, List.append_nil] at this
end Go.Proofs.WM

/-
  The laws' bare (a string without the blanks outside of its strings), by the program, in memory. Condition: at most a thousand million bytes.
-/
namespace Go.Proofs.WV
open Go.RowKit Go.Proofs.KL Go.Proofs.WM
set_option maxRecDepth 100000
set_option linter.unusedSimpArgs false
set_option linter.unusedVariables false

theorem str_at {T : ByteArray} {i : Nat} {c : UInt8} {q : Bs} (h : (bl T).drop i = c :: q) : ∃ hi : i < T.size, ((T[i].toNat : Nat) : Int) = (c.toNat : Int) := by
  obtain ⟨h1, h2, -⟩ := drop_cons h
  have hi : i < T.size := by rw [bl_len] at h1; exact h1
  refine ⟨hi, ?_⟩
  have h3 : (bl T)[i]? = some T[i] := by
    rw [List.getElem?_eq_getElem h1]; rfl
  rw [List.getD_eq_getElem?_getD, h3] at h2
  have h4 : T[i] = c := h2
  rw [h4]
theorem blank_cases (c : UInt8) : isBlank c = true ↔ ((c.toNat : Int) = 32 ∨ (c.toNat : Int) = 9 ∨ (c.toNat : Int) = 10 ∨ (c.toNat : Int) = 13) := by
  have e : ∀ n : UInt8, (c == n) = true ↔ (c.toNat : Int) = (n.toNat : Int) := fun n => by
    rw [beq_iff_eq]
    constructor
    · rintro rfl; rfl
    · intro h; exact UInt8.toNat_inj.1 (by omega)
  unfold isBlank
  rw [Bool.or_eq_true, Bool.or_eq_true, Bool.or_eq_true, e, e, e, e]
  show ((((c.toNat : Int) = 32 ∨ (c.toNat : Int) = 9) ∨ (c.toNat : Int) = 10) ∨ (c.toNat : Int) = 13) ↔ _
  constructor
  · rintro (((h | h) | h) | h)
    · exact .inl h
    · exact .inr (.inl h)
    · exact .inr (.inr (.inl h))
    · exact .inr (.inr (.inr h))
  · rintro (h | h | h | h)
    · exact .inl (.inl (.inl h))
    · exact .inl (.inl (.inr h))
    · exact .inl (.inr h)
    · exact .inr h
theorem byte_eq (c : UInt8) (n : Nat) (hn : n < 256) : c = UInt8.ofNat n ↔ (c.toNat : Int) = (n : Int) := by
  constructor
  · rintro rfl
    simp [Nat.mod_eq_of_lt hn]
  · intro h
    exact UInt8.toNat_inj.1 (by simp [Nat.mod_eq_of_lt hn]; omega)
set_option maxHeartbeats 8000000 in
theorem bare24 {w : World} {T : ByteArray} (hT : T.size ≤ 1000000000) : Calls Tryd.prog 24 #[.string T] w fun e w' => e = .returned (.string (mkB (bareB false (bl T)))) ∧ Keeps Nob w w' := by
  obtain ⟨R, hR⟩ : ∃ x, bareB false (bl T) = x := ⟨_, rfl⟩
  have hRl : R.length ≤ 1000000000 := by have := bare_le false (bl T); rw [hR, bl_len] at this; omega
  have HRl := Lib.hid hRl
  have HR := Lib.hid hR
  rw [hR]
  obtain ⟨n, hn⟩ : ∃ n, T.size = n := ⟨_, rfl⟩
  have Hn := Lib.hid hn
  have hni : (n : Int) ≤ 1000000000 := by omega
  clear hR hT hRl
  go_enter Tryd.func24, Tryd.ntmps24
  go_upto_region 4 with fail
  go_loopg [5, 4, 3] n (fun K iv fv ov wr => ∃ (i : Nat) (f : Bool) (oA : Option Addr) (oc : Nat) (out r : Bs), iv = .int .i64 i ∧ fv = .bool f ∧ ov = .slice oA out.length oc ∧ i + K = n ∧ i + r.length = n ∧ Hid ((bl T).drop i = r) ∧ Hid (OwnB wr w.heap.size (.slice oA out.length oc) out) ∧ Hid (Keeps Nob w wr) ∧ Hid (out ++ bareB f r = R))
  case atStart => exact ⟨0, false, none, 0, [], bl T, rfl, rfl, rfl, by omega, by rw [bl_len]; omega, Lib.hid rfl, Lib.hid (OwnB.nil _ _), Lib.hid (Keeps.refl _ _), HR⟩
  case round =>
    obtain ⟨i, f, oA, oc, out, r, rfl, rfl, rfl, hK, hir, Hr, HO, HK, HE⟩ := hrel
    rcases r with _ | ⟨ch, q⟩
    · have e : i = n := by simpa using hir
      subst e
      have hii : (i : Int) = T.size := by omega
      have HRR := Lib.hid (show out = R by rw [← HE.out, bare_nil, List.append_nil])
      clear hir hK
      go_wp2_with (first
        | ((with_reducible refine at_dst (N := 63) rfl ?_); go_must (refine ev_conv_bs rfl rfl Tryd.underlying38 Tryd.underlying5 Tryd.underlying9 (bs := out) rfl HO.out.bytes ?_); (try simp only [PU]))
      )
      go_ret
      rw [HRR.out]
      exact ⟨rfl, HK.out⟩
    · obtain ⟨hlt, hc⟩ := str_at Hr.out
      obtain ⟨hin, hget, hdrop⟩ := drop_cons Hr.out
      simp only [List.length_cons] at hir
      have Hq := Lib.hid hdrop
      have Hol := Lib.hid (show out.length ≤ 1000000000 by have := congrArg List.length HE.out; rw [List.length_append] at this; have := HRl.out; omega)
      have Hbl := Lib.hid (blank_cases ch)
      have H34 := Lib.hid (byte_eq ch 34 (by decide))
      have H92 := Lib.hid (byte_eq ch 92 (by decide))
      obtain ⟨cv, hcv⟩ : ∃ x : Int, (ch.toNat : Int) = x := ⟨_, rfl⟩
      have Hcv := Lib.hid hcv
      rw [hcv] at hc Hbl H34 H92
      have hini : (i : Int) < (T.size : Int) := by omega
      clear hin hget hdrop hcv
      cases f
      · rcases hb : isBlank ch with _ | _
        · have hnb : ¬ (cv = 32 ∨ cv = 9 ∨ cv = 10 ∨ cv = 13) := fun h => by have := Hbl.out.2 h; rw [hb] at this; cases this
          have b1 : (cv == 32) = false := beq_eq_false_iff_ne.2 (fun e => hnb (.inl e))
          have b2 : (cv == 9) = false := beq_eq_false_iff_ne.2 (fun e => hnb (.inr (.inl e)))
          have b3 : (cv == 10) = false := beq_eq_false_iff_ne.2 (fun e => hnb (.inr (.inr (.inl e))))
          have b4 : (cv == 13) = false := beq_eq_false_iff_ne.2 (fun e => hnb (.inr (.inr (.inr e))))
          have Hb := Lib.hid hb
          clear hnb hb
          by_cases h34 : cv = 34
          · have Hc34 := Lib.hid (H34.out.2 h34)
            subst h34
            go_wp2_with (first
              | ((with_reducible refine at_dst (N := 36) rfl ?_); go_must (refine ev_slice (cs := #[.int .u8 34]) (t := 5) (n := 1) (c := 1) rfl (by first | (go_simp; done) | (go_simp; rfl)) ?_; intro gb wb hgb hlb hbb hkb)
                 have Hbb := Lib.hid hbb
                 have HKb := Lib.hid (HK.out.trans hkb (fun _ _ h => h))
                 have HOb := Lib.hid (HO.out.keep hkb (fun _ _ => id))
                 clear hbb hkb hgb hlb
                 (try simp only [PU]))
              | ((with_reducible refine at_dst (N := 37) rfl ?_); go_must (refine ev_app_sl rfl rfl byteT38 (base := w.heap.size) rfl HOb.out rfl (news := [ch]) rfl (fun _ => ⟨_, rfl, by rw [List.map_cons, List.map_nil]; unfold byteV; rw [Hcv.out]; exact World.news_of_block Hbb.out⟩) (by have := Hol.out; omega) HKb.out.size ?_; intro v' wc ho2 ha2; obtain ⟨nA, nc, hv'⟩ := ho2.slice; subst hv')
                 have HO2 := Lib.hid ho2
                 have HK2 := Lib.hid (HKb.out.trans ha2.keep (fun i hi e => by have := (HOb.out.lt i e.symm).1; omega))
                 clear ho2 ha2
                 (try simp only [PU]))
            )
            go_roundg (n - i - 1)
            case measure => omega
            case rel => exact ⟨i + 1, true, nA, nc, out ++ [ch], q, by rfl, rfl, by rw [List.length_append] <;> rfl, by omega, by omega, Lib.hid Hq.out, HO2, HK2, Lib.hid (by rw [← HE.out, (show bareB false (ch :: q) = ch :: bareB true q by rw [Hc34.out] <;> rfl), List.append_assoc] <;> rfl)⟩
          · have Hc34 := Lib.hid (show ch ≠ 34 from fun e => h34 (H34.out.1 e))
            have b5 : (cv == 34) = false := beq_eq_false_iff_ne.2 h34
            go_wp2_with (first
              | ((with_reducible refine at_dst (N := 36) rfl ?_); go_must (refine ev_slice (cs := #[.int .u8 cv]) (t := 5) (n := 1) (c := 1) rfl (by first | (go_simp; done) | (go_simp; rfl)) ?_; intro gb wb hgb hlb hbb hkb)
                 have Hbb := Lib.hid hbb
                 have HKb := Lib.hid (HK.out.trans hkb (fun _ _ h => h))
                 have HOb := Lib.hid (HO.out.keep hkb (fun _ _ => id))
                 clear hbb hkb hgb hlb
                 (try simp only [PU]))
              | ((with_reducible refine at_dst (N := 37) rfl ?_); go_must (refine ev_app_sl rfl rfl byteT38 (base := w.heap.size) rfl HOb.out rfl (news := [ch]) rfl (fun _ => ⟨_, rfl, by rw [List.map_cons, List.map_nil]; unfold byteV; rw [Hcv.out]; exact World.news_of_block Hbb.out⟩) (by have := Hol.out; omega) HKb.out.size ?_; intro v' wc ho2 ha2; obtain ⟨nA, nc, hv'⟩ := ho2.slice; subst hv')
                 have HO2 := Lib.hid ho2
                 have HK2 := Lib.hid (HKb.out.trans ha2.keep (fun i hi e => by have := (HOb.out.lt i e.symm).1; omega))
                 clear ho2 ha2
                 (try simp only [PU]))
            )
            go_roundg (n - i - 1)
            case measure => omega
            case rel => exact ⟨i + 1, false, nA, nc, out ++ [ch], q, by rfl, rfl, by rw [List.length_append] <;> rfl, by omega, by omega, Lib.hid Hq.out, HO2, HK2, Lib.hid (by rw [← HE.out, (bare_plain Hb.out Hc34.out), List.append_assoc] <;> rfl)⟩
        · have hcase := Hbl.out.1 hb
          have Hb := Lib.hid hb
          clear hb
          rcases hcase with e | e | e | e
          · subst e
            go_wp2
            go_roundg (n - i - 1)
            case measure => omega
            case rel => exact ⟨i + 1, false, oA, oc, out, q, by rfl, rfl, rfl, by omega, by omega, Lib.hid Hq.out, HO, HK, Lib.hid (by rw [← HE.out, bare_blank Hb.out])⟩
          · subst e
            go_wp2
            go_roundg (n - i - 1)
            case measure => omega
            case rel => exact ⟨i + 1, false, oA, oc, out, q, by rfl, rfl, rfl, by omega, by omega, Lib.hid Hq.out, HO, HK, Lib.hid (by rw [← HE.out, bare_blank Hb.out])⟩
          · subst e
            go_wp2
            go_roundg (n - i - 1)
            case measure => omega
            case rel => exact ⟨i + 1, false, oA, oc, out, q, by rfl, rfl, rfl, by omega, by omega, Lib.hid Hq.out, HO, HK, Lib.hid (by rw [← HE.out, bare_blank Hb.out])⟩
          · subst e
            go_wp2
            go_roundg (n - i - 1)
            case measure => omega
            case rel => exact ⟨i + 1, false, oA, oc, out, q, by rfl, rfl, rfl, by omega, by omega, Lib.hid Hq.out, HO, HK, Lib.hid (by rw [← HE.out, bare_blank Hb.out])⟩
      · by_cases h92 : cv = 92
        · have Hc92 := Lib.hid (H92.out.2 h92)
          subst h92
          rcases hqq : q with _ | ⟨d, q'⟩
          · have hlast : ¬ ((i : Int) + 1 < (T.size : Int)) := by rw [hqq] at hir; simp only [List.length_nil] at hir; omega
            have HQQ := Lib.hid hqq
            clear hqq
            go_wp2_with (first
              | ((with_reducible refine at_dst (N := 36) rfl ?_); go_must (refine ev_slice (cs := #[.int .u8 92]) (t := 5) (n := 1) (c := 1) rfl (by first | (go_simp; done) | (go_simp; rfl)) ?_; intro gb wb hgb hlb hbb hkb)
                 have Hbb := Lib.hid hbb
                 have HKb := Lib.hid (HK.out.trans hkb (fun _ _ h => h))
                 have HOb := Lib.hid (HO.out.keep hkb (fun _ _ => id))
                 clear hbb hkb hgb hlb
                 (try simp only [PU]))
              | ((with_reducible refine at_dst (N := 37) rfl ?_); go_must (refine ev_app_sl rfl rfl byteT38 (base := w.heap.size) rfl HOb.out rfl (news := [ch]) rfl (fun _ => ⟨_, rfl, by rw [List.map_cons, List.map_nil]; unfold byteV; rw [Hcv.out]; exact World.news_of_block Hbb.out⟩) (by have := Hol.out; omega) HKb.out.size ?_; intro v' wc ho2 ha2; obtain ⟨nA, nc, hv'⟩ := ho2.slice; subst hv')
                 have HO2 := Lib.hid ho2
                 have HK2 := Lib.hid (HKb.out.trans ha2.keep (fun i hi e => by have := (HOb.out.lt i e.symm).1; omega))
                 clear ho2 ha2
                 (try simp only [PU]))
            )
            go_roundg (n - i - 1)
            case measure => omega
            case rel => exact ⟨i + 1, true, nA, nc, out ++ [ch], q, by rfl, rfl, by rw [List.length_append] <;> rfl, by omega, by omega, Lib.hid Hq.out, HO2, HK2, Lib.hid (by rw [← HE.out, (show bareB true (ch :: q) = ch :: bareB true q by rw [HQQ.out] <;> rfl), List.append_assoc] <;> rfl)⟩
          · subst hqq
            obtain ⟨hlt2, hd⟩ := str_at Hq.out
            obtain ⟨hin2, hget2, hdrop2⟩ := drop_cons Hq.out
            have Hq2 := Lib.hid hdrop2
            simp only [List.length_cons] at hir
            obtain ⟨dv, hdv⟩ : ∃ x : Int, (d.toNat : Int) = x := ⟨_, rfl⟩
            have Hdv := Lib.hid hdv
            rw [hdv] at hd
            have hmore : (i : Int) + 1 < (T.size : Int) := by omega
            clear hin2 hget2 hdrop2 hdv
            go_wp2_with (first
              | ((with_reducible refine at_dst (N := 36) rfl ?_); go_must (refine ev_slice (cs := #[.int .u8 92]) (t := 5) (n := 1) (c := 1) rfl (by first | (go_simp; done) | (go_simp; rfl)) ?_; intro gb wb hgb hlb hbb hkb)
                 have Hbb := Lib.hid hbb
                 have HKb := Lib.hid (HK.out.trans hkb (fun _ _ h => h))
                 have HOb := Lib.hid (HO.out.keep hkb (fun _ _ => id))
                 clear hbb hkb hgb hlb
                 (try simp only [PU]))
              | ((with_reducible refine at_dst (N := 37) rfl ?_); go_must (refine ev_app_sl rfl rfl byteT38 (base := w.heap.size) rfl HOb.out rfl (news := [ch]) rfl (fun _ => ⟨_, rfl, by rw [List.map_cons, List.map_nil]; unfold byteV; rw [Hcv.out]; exact World.news_of_block Hbb.out⟩) (by have := Hol.out; omega) HKb.out.size ?_; intro v' wc ho2 ha2; obtain ⟨nA, nc, hv'⟩ := ho2.slice; subst hv')
                 have HO2 := Lib.hid ho2
                 have HK2 := Lib.hid (HKb.out.trans ha2.keep (fun i hi e => by have := (HOb.out.lt i e.symm).1; omega))
                 clear ho2 ha2
                 (try simp only [PU]))
              | ((with_reducible refine at_dst (N := 56) rfl ?_); go_must (refine ev_slice (cs := #[.int .u8 dv]) (t := 5) (n := 1) (c := 1) rfl (by first | (go_simp; done) | (go_simp; rfl)) ?_; intro gd wd hgd hld hbd hkd)
                 have Hbd := Lib.hid hbd
                 have HKd := Lib.hid (HK2.out.trans hkd (fun _ _ h => h))
                 have HOd := Lib.hid (HO2.out.keep hkd (fun _ _ => id))
                 clear hbd hkd hgd hld
                 (try simp only [PU]))
              | ((with_reducible refine at_dst (N := 57) rfl ?_); go_must (refine ev_app_sl rfl rfl byteT38 (base := w.heap.size) rfl HOd.out rfl (news := [d]) rfl (fun _ => ⟨_, rfl, by rw [List.map_cons, List.map_nil]; unfold byteV; rw [Hdv.out]; exact World.news_of_block Hbd.out⟩) (by have := Hol.out; simp only [List.length_append, List.length_cons, List.length_nil]; omega) HKd.out.size ?_; intro v' we ho3 ha3; obtain ⟨mA, mc, hv'⟩ := ho3.slice; subst hv')
                 have HO3 := Lib.hid ho3
                 have HK3 := Lib.hid (HKd.out.trans ha3.keep (fun i hi e => by have := (HOd.out.lt i e.symm).1; omega))
                 clear ho3 ha3
                 (try simp only [PU]))
            )
            go_roundg (n - i - 2)
            case measure => omega
            case rel => exact ⟨i + 2, true, mA, mc, out ++ [ch] ++ [d], q', by first | rfl | (congr 1; omega), rfl, by simp only [List.length_append, List.length_cons, List.length_nil], by omega, by omega, Lib.hid Hq2.out, HO3, HK3, Lib.hid (by rw [← HE.out, Hc92.out, show bareB true (UInt8.ofNat 92 :: d :: q') = UInt8.ofNat 92 :: d :: bareB true q' from rfl, List.append_assoc, List.append_assoc]; rfl)⟩
        · have Hc92 := Lib.hid (show ch ≠ 92 from fun e => h92 (H92.out.1 e))
          have b6 : (cv == 92) = false := beq_eq_false_iff_ne.2 h92
          by_cases h34 : cv = 34
          · have Hc34 := Lib.hid (H34.out.2 h34)
            subst h34
            go_wp2_with (first
              | ((with_reducible refine at_dst (N := 36) rfl ?_); go_must (refine ev_slice (cs := #[.int .u8 34]) (t := 5) (n := 1) (c := 1) rfl (by first | (go_simp; done) | (go_simp; rfl)) ?_; intro gb wb hgb hlb hbb hkb)
                 have Hbb := Lib.hid hbb
                 have HKb := Lib.hid (HK.out.trans hkb (fun _ _ h => h))
                 have HOb := Lib.hid (HO.out.keep hkb (fun _ _ => id))
                 clear hbb hkb hgb hlb
                 (try simp only [PU]))
              | ((with_reducible refine at_dst (N := 37) rfl ?_); go_must (refine ev_app_sl rfl rfl byteT38 (base := w.heap.size) rfl HOb.out rfl (news := [ch]) rfl (fun _ => ⟨_, rfl, by rw [List.map_cons, List.map_nil]; unfold byteV; rw [Hcv.out]; exact World.news_of_block Hbb.out⟩) (by have := Hol.out; omega) HKb.out.size ?_; intro v' wc ho2 ha2; obtain ⟨nA, nc, hv'⟩ := ho2.slice; subst hv')
                 have HO2 := Lib.hid ho2
                 have HK2 := Lib.hid (HKb.out.trans ha2.keep (fun i hi e => by have := (HOb.out.lt i e.symm).1; omega))
                 clear ho2 ha2
                 (try simp only [PU]))
            )
            go_roundg (n - i - 1)
            case measure => omega
            case rel => exact ⟨i + 1, false, nA, nc, out ++ [ch], q, by rfl, rfl, by rw [List.length_append] <;> rfl, by omega, by omega, Lib.hid Hq.out, HO2, HK2, Lib.hid (by rw [← HE.out, (show bareB true (ch :: _) = ch :: bareB false _ by rw [Hc34.out]; exact bare_end _), List.append_assoc] <;> rfl)⟩
          · have Hc34 := Lib.hid (show ch ≠ 34 from fun e => h34 (H34.out.1 e))
            have b5 : (cv == 34) = false := beq_eq_false_iff_ne.2 h34
            go_wp2_with (first
              | ((with_reducible refine at_dst (N := 36) rfl ?_); go_must (refine ev_slice (cs := #[.int .u8 cv]) (t := 5) (n := 1) (c := 1) rfl (by first | (go_simp; done) | (go_simp; rfl)) ?_; intro gb wb hgb hlb hbb hkb)
                 have Hbb := Lib.hid hbb
                 have HKb := Lib.hid (HK.out.trans hkb (fun _ _ h => h))
                 have HOb := Lib.hid (HO.out.keep hkb (fun _ _ => id))
                 clear hbb hkb hgb hlb
                 (try simp only [PU]))
              | ((with_reducible refine at_dst (N := 37) rfl ?_); go_must (refine ev_app_sl rfl rfl byteT38 (base := w.heap.size) rfl HOb.out rfl (news := [ch]) rfl (fun _ => ⟨_, rfl, by rw [List.map_cons, List.map_nil]; unfold byteV; rw [Hcv.out]; exact World.news_of_block Hbb.out⟩) (by have := Hol.out; omega) HKb.out.size ?_; intro v' wc ho2 ha2; obtain ⟨nA, nc, hv'⟩ := ho2.slice; subst hv')
                 have HO2 := Lib.hid ho2
                 have HK2 := Lib.hid (HKb.out.trans ha2.keep (fun i hi e => by have := (HOb.out.lt i e.symm).1; omega))
                 clear ho2 ha2
                 (try simp only [PU]))
            )
            go_roundg (n - i - 1)
            case measure => omega
            case rel => exact ⟨i + 1, true, nA, nc, out ++ [ch], q, by rfl, rfl, by rw [List.length_append] <;> rfl, by omega, by omega, Lib.hid Hq.out, HO2, HK2, Lib.hid (by rw [← HE.out, (bare_in Hc92.out Hc34.out), List.append_assoc] <;> rfl)⟩
end Go.Proofs.WV

/-
  The law WireText, by the program, in memory. Condition: the standard library's table of powers lies.
-/
namespace Go.Proofs.WV
open Go.RowKit Go.Proofs.KL Go.Proofs.WM
set_option maxRecDepth 100000
set_option linter.unusedSimpArgs false
set_option linter.unusedVariables false

theorem readW_ok {T : ByteArray} {j : J} (hl : T.size ≤ 1000000) (hr : readJ (bl T) = .ok j) (hc : checkJ j = 0) : readW T = (j, 0, 0) := by
  unfold readW
  rw [if_neg (by omega), hr]
  simp only [hc, if_true]
theorem readW_err {T : ByteArray} {a : Nat} (hl : T.size ≤ 1000000) (hr : readJ (bl T) = .error a) : readW T = (zJ, (a : Int), 4) := by
  unfold readW
  rw [if_neg (by omega), hr]
theorem writeJ_ok {j : J} (h : checkJ j = 0) : writeJ j = (textJ j, 0) := by
  unfold checkJ at h
  unfold writeJ
  split at h
  · cases h
  split at h
  · cases h
  · rename_i h1 h2
    rw [if_neg h1, if_neg h2]
/-- What the law compares: all is as it must be. -/
theorem text_plain {T : ByteArray} {j : J} (hl : T.size ≤ 3000) (hr : readJ (bl T) = .ok j) :
    readW T = (j, 0, 0) ∧ readW (mkB (bareB false (bl T))) = (j, 0, 0) ∧ writeJ j = (textJ j, 0) ∧ readW (mkB (textJ j)) = (j, 0, 0) ∧ bareB false (textJ j) = textJ j ∧ checkJ j = 0 ∧ (textJ j).length ≤ 51000 ∧ sizeJ j ≤ 102000 := by
  have hl' : (bl T).length ≤ 3000 := by rw [bl_len]; exact hl
  obtain ⟨h1, h2, h3, h4⟩ := readJ_check hr hl'
  have hb := bare_le false (bl T)
  have hs : ∀ x : Bs, (mkB x).size = x.length := fun x => rfl
  have hbl : ∀ x : Bs, bl (mkB x) = x := fun x => rfl
  refine ⟨readW_ok (by omega) hr h4, readW_ok (by rw [hs]; omega) (by rw [hbl]; exact readJ_bare hr) h4, writeJ_ok h4, readW_ok (by rw [hs]; omega) (by rw [hbl]; exact readJ_text h1 h2) h4, bare_textJ j, h4, h3, ?_⟩
  have := size_text j h1
  omega
set_option maxHeartbeats 2000000 in
theorem WireText_long (w : World) (ht : Tab w w.heap.size) (T : ByteArray) (hT : 3000 < T.size) : Calls Tryd.prog 7 #[.string T] w fun e w' => e = .returned (.bool true) ∧ Keeps Nob w w' := by
  obtain ⟨i25, hi25, hs25⟩ := info25
  have HI := Lib.hid (And.intro hi25 hs25)
  have HT := Lib.hid ht
  have HK := Lib.hid (Keeps.refl Nob w)
  clear ht hi25 hs25
  have hTi : (3000 : Int) < T.size := by omega
  clear hT
  go_enter Tryd.func7, Tryd.ntmps7
  go_wp2_with (first
    | (go_at_call 13; go_must (refine (alive13 (Tab.after HT.out HK.out)).mono ?_; rintro e w3 ⟨rfl, hk3⟩); have HKz := Lib.hid (HK.out.trans hk3 (fun _ _ h => h)); clear hk3; (try simp only [PU]))
  )
  go_ret
  exact ⟨rfl, HKz.out⟩
set_option maxHeartbeats 8000000 in
theorem WireText_bad (w : World) (ht : Tab w w.heap.size) (T : ByteArray) (hT : T.size ≤ 3000) (a : Nat) (hr : readJ (bl T) = .error a) : Calls Tryd.prog 7 #[.string T] w fun e w' => e = .returned (.bool true) ∧ Keeps Nob w w' := by
  obtain ⟨i25, hi25, hs25⟩ := info25
  have HI := Lib.hid (And.intro hi25 hs25)
  have HT := Lib.hid ht
  have HK := Lib.hid (Keeps.refl Nob w)
  clear ht hi25 hs25
  have hTi : ¬ (3000 : Int) < T.size := by omega
  have h24 := fun W => bare24 (w := W) (T := T) (by omega)
  have H24 := Lib.hid h24
  have h1 := fun W ht => Read_any (w := W) (T := T) ht
  rw [readW_err (by omega) hr] at h1
  have HRDy := Lib.hid h1
  obtain ⟨B, hB⟩ : ∃ B, mkB (bareB false (bl T)) = B := ⟨_, rfl⟩
  rw [hB] at H24
  obtain ⟨X, hX⟩ : ∃ X, readW B = X := ⟨_, rfl⟩
  have h2 := fun W ht => Read_any (w := W) (T := B) ht
  rw [hX] at h2
  obtain ⟨X1, X2, X3⟩ := X
  have HRDz := Lib.hid h2
  clear hT hr h24 h1 h2 hB hX
  go_enter Tryd.func7, Tryd.ntmps7
  go_upto_region 4 with (first
    | (go_at_call 18; go_must (refine (HRDy.out _ (Tab.after HT.out HK.out)).mono ?_; rintro e w1 ⟨⟨v1, rfl, hv1⟩, hky⟩; obtain ⟨yk, yb, yn, yt, yks, yvs, ykv, yvv, hjj, rfl, hjk, hjv⟩ := hv1.open; obtain ⟨ykA, ykc, rfl, -, -⟩ := hjk; obtain ⟨yvA, yvc, ru, rfl, -, -, -⟩ := hjv)
       have HVy := Lib.hid hv1.low
       have Hszy := Lib.hid (show w.heap.size ≤ w1.heap.size from Nat.le_trans HK.out.size hky.size)
       have HK := Lib.hid (HK.out.trans hky (fun _ _ h => h))
       clear hky hv1 hjj
       generalize yks.length = ykl at *
       generalize yvs.length = yvl at *
       (try simp only [PU]))
    | ((with_reducible refine at_dst (N := 3) rfl ?_); go_must (refine ev_alloc rfl rfl zero25 rfl ?_; intro gy wj hg hl hb hk)
       have Hby := Lib.hid hb
       have Hgy := Lib.hid (show w.heap.size ≤ gy from Nat.le_trans HK.out.size hg)
       have HVy := Lib.hid (HVy.out.keep (X' := fun b => b < gy) hk (fun _ _ _ => id) (fun b hb hx => Nat.lt_of_lt_of_le hx hg))
       have HK := Lib.hid (HK.out.trans hk (fun _ _ h => h))
       clear hb hk hg hl
       (try simp only [PU]))
    | ((with_reducible refine at_store (t := 25) (p := 3) rfl ?_); go_must (refine ev_store (cs' := #[.int .i64 yk, .bool yb, .int .i64 yn, .string yt, .slice ykA ykl ykc, .slice yvA yvl yvc]) rfl rfl rfl rfl rfl rfl HI.out.1 HI.out.2 rfl Hby.out (Nat.le_of_ble_eq_true rfl) rfl ?_; intro wl hb hk)
       have Hby := Lib.hid hb
       have HVy := Lib.hid (HVy.out.keep (X' := fun b => b < gy) hk (fun b _ hb e => by omega) (fun _ _ h => h))
       have HK := Lib.hid (show Keeps Nob w wl from HK.out.trans hk (fun i hi e => by have := Hgy.out; omega))
       clear hb hk
       (try simp only [PU]))
  )
  go_upto_region 5 with (first
    | (go_at_call 24; go_must (refine (H24.out _).mono ?_; rintro e w2 ⟨rfl, hk2⟩); have HVy := Lib.hid (HVy.out.after hk2); have Hby := Lib.hid (hk2.blk Hby.out id); have HK := Lib.hid (HK.out.trans hk2 (fun _ _ h => h)); clear hk2; (try simp only [PU]))
    | (go_at_call 18; go_must (refine (HRDz.out _ (Tab.after HT.out HK.out)).mono ?_; rintro e w1 ⟨⟨v1, rfl, hv1⟩, hkz⟩; obtain ⟨zk, zb, zn, zt, zks, zvs, zkv, zvv, hjj, rfl, hjk, hjv⟩ := hv1.open; obtain ⟨zkA, zkc, rfl, -, -⟩ := hjk; obtain ⟨zvA, zvc, ru, rfl, -, -, -⟩ := hjv)
       have HVz := Lib.hid hv1.low
       have HVy := Lib.hid (HVy.out.after hkz)
       have Hby := Lib.hid (hkz.blk Hby.out id)
       have Hszz := Lib.hid (show w.heap.size ≤ w1.heap.size from Nat.le_trans HK.out.size hkz.size)
       have HK := Lib.hid (HK.out.trans hkz (fun _ _ h => h))
       clear hkz hv1 hjj
       generalize zks.length = zkl at *
       generalize zvs.length = zvl at *
       (try simp only [PU]))
    | ((with_reducible refine at_dst (N := 6) rfl ?_); go_must (refine ev_alloc rfl rfl zero25 rfl ?_; intro gz wj hg hl hb hk)
       have Hbz := Lib.hid hb
       have Hgz := Lib.hid (show w.heap.size ≤ gz ∧ gy < gz from ⟨Nat.le_trans HK.out.size hg, Nat.lt_of_lt_of_le (blk_lt Hby.out) hg⟩)
       have HVz := Lib.hid (HVz.out.keep (X' := fun b => b < gz) hk (fun _ _ _ => id) (fun b hb hx => Nat.lt_of_lt_of_le hx hg))
       have HVy := Lib.hid (HVy.out.after hk)
       have Hby := Lib.hid (hk.blk Hby.out id)
       have HK := Lib.hid (HK.out.trans hk (fun _ _ h => h))
       clear hb hk hg hl
       (try simp only [PU]))
    | ((with_reducible refine at_store (t := 25) (p := 6) rfl ?_); go_must (refine ev_store (cs' := #[.int .i64 zk, .bool zb, .int .i64 zn, .string zt, .slice zkA zkl zkc, .slice zvA zvl zvc]) rfl rfl rfl rfl rfl rfl HI.out.1 HI.out.2 rfl Hbz.out (Nat.le_of_ble_eq_true rfl) rfl ?_; intro wl hb hk)
       have Hbz := Lib.hid hb
       have HVz := Lib.hid (HVz.out.keep (X' := fun b => b < gz) hk (fun b _ hb e => by omega) (fun _ _ h => h))
       have HVy := Lib.hid (HVy.out.keep (X' := fun b => b < gy) hk (fun b _ hb e => by have := Hgz.out; omega) (fun _ _ h => h))
       have Hby := Lib.hid (hk.blk Hby.out (fun e : gy = gz => by have := Hgz.out; omega))
       have HK := Lib.hid (show Keeps Nob w wl from HK.out.trans hk (fun i hi e => by have := Hgz.out; omega))
       clear hb hk
       (try simp only [PU]))
  )
  go_wp2_with (first
    | (go_at_call 13; go_must (refine (alive13 (Tab.after HT.out HK.out)).mono ?_; rintro e w3 ⟨rfl, hk3⟩); have HKz := Lib.hid (HK.out.trans hk3 (fun _ _ h => h)); clear hk3; (try simp only [PU]))
  )
  go_ret
  exact ⟨rfl, HKz.out⟩
set_option maxHeartbeats 8000000 in
theorem WireText_ok (w : World) (ht : Tab w w.heap.size) (T : ByteArray) (hT : T.size ≤ 3000) (j : J) (hr : readJ (bl T) = .ok j) : Calls Tryd.prog 7 #[.string T] w fun e w' => e = .returned (.bool true) ∧ Keeps Nob w w' := by
  obtain ⟨i25, hi25, hs25⟩ := info25
  have HI := Lib.hid (And.intro hi25 hs25)
  have HT := Lib.hid ht
  have HK := Lib.hid (Keeps.refl Nob w)
  clear ht hi25 hs25
  have hTi : ¬ (3000 : Int) < T.size := by omega
  obtain ⟨p1, p2, p3, p4, p5, p6, p7, p8⟩ := text_plain hT hr
  have HJ := Lib.hid (show sizeJ j ≤ 10000000000 ∧ sizeJ j ≤ 1000000000000 by omega)
  have HC := Lib.hid p6
  have h1 := fun W ht => Read_any (w := W) (T := T) ht
  rw [p1] at h1
  have h2 := fun W ht => Read_any (w := W) (T := mkB (bareB false (bl T))) ht
  rw [p2] at h2
  have h3 := fun W ht => Read_any (w := W) (T := mkB (textJ j)) ht
  rw [p4] at h3
  have h4 := fun W => bare24 (w := W) (T := T) (by omega)
  have h5 := fun W => bare24 (w := W) (T := mkB (textJ j)) (by show (textJ j).length ≤ _; omega)
  rw [show bl (mkB (textJ j)) = textJ j from rfl, p5] at h5
  have h6 : ∀ W X v, JX W X v j → Tab W W.heap.size → Calls Tryd.prog 15 #[v] W fun e w' => e = .returned (.tuple #[.string (mkB (textJ j)), .int .i64 0]) ∧ Keeps Nob W w' := fun W X v h ht => by
    have := write15 h ht HJ.out.1
    rw [p3] at this
    exact this
  generalize mkB (bareB false (bl T)) = B at *
  generalize mkB (textJ j) = S at *
  have HRDy := Lib.hid h1
  have HRDz := Lib.hid h2
  have HRDx := Lib.hid h3
  have H24 := Lib.hid h4
  have H24s := Lib.hid h5
  have H15 := Lib.hid h6
  have Hsame := Lib.hid (show sameJ j j = true from (sameJ_iff _ _).2 rfl)
  clear hT hr h1 h2 h3 h4 h5 h6 p1 p2 p3 p4 p5 p6 p7 p8
  go_enter Tryd.func7, Tryd.ntmps7
  go_upto_region 4 with (first
    | (go_at_call 18; go_must (refine (HRDy.out _ (Tab.after HT.out HK.out)).mono ?_; rintro e w1 ⟨⟨v1, rfl, hv1⟩, hky⟩; obtain ⟨yk, yb, yn, yt, yks, yvs, ykv, yvv, hjj, rfl, hjk, hjv⟩ := hv1.open; obtain ⟨ykA, ykc, rfl, -, -⟩ := hjk; obtain ⟨yvA, yvc, ru, rfl, -, -, -⟩ := hjv)
       have HVy := Lib.hid hv1.low
       have Hszy := Lib.hid (show w.heap.size ≤ w1.heap.size from Nat.le_trans HK.out.size hky.size)
       have HK := Lib.hid (HK.out.trans hky (fun _ _ h => h))
       clear hky hv1 hjj
       generalize yks.length = ykl at *
       generalize yvs.length = yvl at *
       (try simp only [PU]))
    | ((with_reducible refine at_dst (N := 3) rfl ?_); go_must (refine ev_alloc rfl rfl zero25 rfl ?_; intro gy wj hg hl hb hk)
       have Hby := Lib.hid hb
       have Hgy := Lib.hid (show w.heap.size ≤ gy from Nat.le_trans HK.out.size hg)
       have HVy := Lib.hid (HVy.out.keep (X' := fun b => b < gy) hk (fun _ _ _ => id) (fun b hb hx => Nat.lt_of_lt_of_le hx hg))
       have HK := Lib.hid (HK.out.trans hk (fun _ _ h => h))
       clear hb hk hg hl
       (try simp only [PU]))
    | ((with_reducible refine at_store (t := 25) (p := 3) rfl ?_); go_must (refine ev_store (cs' := #[.int .i64 yk, .bool yb, .int .i64 yn, .string yt, .slice ykA ykl ykc, .slice yvA yvl yvc]) rfl rfl rfl rfl rfl rfl HI.out.1 HI.out.2 rfl Hby.out (Nat.le_of_ble_eq_true rfl) rfl ?_; intro wl hb hk)
       have Hby := Lib.hid hb
       have HVy := Lib.hid (HVy.out.keep (X' := fun b => b < gy) hk (fun b _ hb e => by omega) (fun _ _ h => h))
       have HK := Lib.hid (show Keeps Nob w wl from HK.out.trans hk (fun i hi e => by have := Hgy.out; omega))
       clear hb hk
       (try simp only [PU]))
  )
  go_upto_region 5 with (first
    | (go_at_call 24; go_must (refine (H24.out _).mono ?_; rintro e w2 ⟨rfl, hk2⟩); have HVy := Lib.hid (HVy.out.after hk2); have Hby := Lib.hid (hk2.blk Hby.out id); have HK := Lib.hid (HK.out.trans hk2 (fun _ _ h => h)); clear hk2; (try simp only [PU]))
    | (go_at_call 18; go_must (refine (HRDz.out _ (Tab.after HT.out HK.out)).mono ?_; rintro e w1 ⟨⟨v1, rfl, hv1⟩, hkz⟩; obtain ⟨zk, zb, zn, zt, zks, zvs, zkv, zvv, hjj, rfl, hjk, hjv⟩ := hv1.open; obtain ⟨zkA, zkc, rfl, -, -⟩ := hjk; obtain ⟨zvA, zvc, ru, rfl, -, -, -⟩ := hjv)
       have HVz := Lib.hid hv1.low
       have HVy := Lib.hid (HVy.out.after hkz)
       have Hby := Lib.hid (hkz.blk Hby.out id)
       have Hszz := Lib.hid (show w.heap.size ≤ w1.heap.size from Nat.le_trans HK.out.size hkz.size)
       have HK := Lib.hid (HK.out.trans hkz (fun _ _ h => h))
       clear hkz hv1 hjj
       generalize zks.length = zkl at *
       generalize zvs.length = zvl at *
       (try simp only [PU]))
    | ((with_reducible refine at_dst (N := 6) rfl ?_); go_must (refine ev_alloc rfl rfl zero25 rfl ?_; intro gz wj hg hl hb hk)
       have Hbz := Lib.hid hb
       have Hgz := Lib.hid (show w.heap.size ≤ gz ∧ gy < gz from ⟨Nat.le_trans HK.out.size hg, Nat.lt_of_lt_of_le (blk_lt Hby.out) hg⟩)
       have HVz := Lib.hid (HVz.out.keep (X' := fun b => b < gz) hk (fun _ _ _ => id) (fun b hb hx => Nat.lt_of_lt_of_le hx hg))
       have HVy := Lib.hid (HVy.out.after hk)
       have Hby := Lib.hid (hk.blk Hby.out id)
       have HK := Lib.hid (HK.out.trans hk (fun _ _ h => h))
       clear hb hk hg hl
       (try simp only [PU]))
    | ((with_reducible refine at_store (t := 25) (p := 6) rfl ?_); go_must (refine ev_store (cs' := #[.int .i64 zk, .bool zb, .int .i64 zn, .string zt, .slice zkA zkl zkc, .slice zvA zvl zvc]) rfl rfl rfl rfl rfl rfl HI.out.1 HI.out.2 rfl Hbz.out (Nat.le_of_ble_eq_true rfl) rfl ?_; intro wl hb hk)
       have Hbz := Lib.hid hb
       have HVz := Lib.hid (HVz.out.keep (X' := fun b => b < gz) hk (fun b _ hb e => by omega) (fun _ _ h => h))
       have HVy := Lib.hid (HVy.out.keep (X' := fun b => b < gy) hk (fun b _ hb e => by have := Hgz.out; omega) (fun _ _ h => h))
       have Hby := Lib.hid (hk.blk Hby.out (fun e : gy = gz => by have := Hgz.out; omega))
       have HK := Lib.hid (show Keeps Nob w wl from HK.out.trans hk (fun i hi e => by have := Hgz.out; omega))
       clear hb hk
       (try simp only [PU]))
  )
  have s0 := (blk_cell Hby.out 0).trans rfl
  have s1 := (blk_cell Hby.out 1).trans rfl
  have s2 := (blk_cell Hby.out 2).trans rfl
  have s3 := (blk_cell Hby.out 3).trans rfl
  have s4 := (blk_cell Hby.out 4).trans rfl
  have s5 := (blk_cell Hby.out 5).trans rfl
  go_upto_region 9 with (first
    | (go_at_call 15; go_must (refine (H15.out _ _ _ HVy.out (Tab.after HT.out HK.out)).mono ?_; rintro e w2 ⟨rfl, hk2⟩)
       have HVy := Lib.hid (HVy.out.after hk2)
       have Hby := Lib.hid (hk2.blk Hby.out id)
       have HVz := Lib.hid (HVz.out.after hk2)
       have Hbz := Lib.hid (hk2.blk Hbz.out id)
       have HK := Lib.hid (HK.out.trans hk2 (fun _ _ h => h))
       clear hk2 s0 s1 s2 s3 s4 s5
       (try simp only [PU]))
    | (go_at_call 18; go_must (refine (HRDx.out _ (Tab.after HT.out HK.out)).mono ?_; rintro e w1 ⟨⟨v1, rfl, hv1⟩, hkx⟩; obtain ⟨xk, xb, xn, xt, xks, xvs, xkv, xvv, hjj, rfl, hjk, hjv⟩ := hv1.open; obtain ⟨xkA, xkc, rfl, -, -⟩ := hjk; obtain ⟨xvA, xvc, ru, rfl, -, -, -⟩ := hjv)
       have HVx := Lib.hid hv1.low
       have HVy := Lib.hid (HVy.out.after hkx)
       have Hby := Lib.hid (hkx.blk Hby.out id)
       have HVz := Lib.hid (HVz.out.after hkx)
       have Hbz := Lib.hid (hkx.blk Hbz.out id)
       have Hszx := Lib.hid (show w.heap.size ≤ w1.heap.size from Nat.le_trans HK.out.size hkx.size)
       have HK := Lib.hid (HK.out.trans hkx (fun _ _ h => h))
       clear hkx hv1 hjj
       generalize xks.length = xkl at *
       generalize xvs.length = xvl at *
       (try simp only [PU]))
    | ((with_reducible refine at_dst (N := 11) rfl ?_); go_must (refine ev_alloc rfl rfl zero25 rfl ?_; intro gx wj hg hl hb hk)
       have Hbx := Lib.hid hb
       have Hgx := Lib.hid (show w.heap.size ≤ gx ∧ gy < gx ∧ gz < gx from ⟨Nat.le_trans HK.out.size hg, Nat.lt_of_lt_of_le (blk_lt Hby.out) hg, Nat.lt_of_lt_of_le (blk_lt Hbz.out) hg⟩)
       have HVx := Lib.hid (HVx.out.keep (X' := fun b => b < gx) hk (fun _ _ _ => id) (fun b hb hx => Nat.lt_of_lt_of_le hx hg))
       have HVy := Lib.hid (HVy.out.after hk)
       have Hby := Lib.hid (hk.blk Hby.out id)
       have HVz := Lib.hid (HVz.out.after hk)
       have Hbz := Lib.hid (hk.blk Hbz.out id)
       have HK := Lib.hid (HK.out.trans hk (fun _ _ h => h))
       clear hb hk hg hl
       (try simp only [PU]))
    | ((with_reducible refine at_store (t := 25) (p := 11) rfl ?_); go_must (refine ev_store (cs' := #[.int .i64 xk, .bool xb, .int .i64 xn, .string xt, .slice xkA xkl xkc, .slice xvA xvl xvc]) rfl rfl rfl rfl rfl rfl HI.out.1 HI.out.2 rfl Hbx.out (Nat.le_of_ble_eq_true rfl) rfl ?_; intro wl hb hk)
       have Hbx := Lib.hid hb
       have HVx := Lib.hid (HVx.out.keep (X' := fun b => b < gx) hk (fun b _ hb e => by omega) (fun _ _ h => h))
       have HVy := Lib.hid (HVy.out.keep (X' := fun b => b < gy) hk (fun b _ hb e => by have := Hgx.out; omega) (fun _ _ h => h))
       have Hby := Lib.hid (hk.blk Hby.out (fun e : gy = gx => by have := Hgx.out; omega))
       have HVz := Lib.hid (HVz.out.keep (X' := fun b => b < gz) hk (fun b _ hb e => by have := Hgx.out; omega) (fun _ _ h => h))
       have Hbz := Lib.hid (hk.blk Hbz.out (fun e : gz = gx => by have := Hgx.out; omega))
       have HK := Lib.hid (show Keeps Nob w wl from HK.out.trans hk (fun i hi e => by have := Hgx.out; omega))
       clear hb hk
       (try simp only [PU]))
  )
  have s0 := (blk_cell Hby.out 0).trans rfl
  have s1 := (blk_cell Hby.out 1).trans rfl
  have s2 := (blk_cell Hby.out 2).trans rfl
  have s3 := (blk_cell Hby.out 3).trans rfl
  have s4 := (blk_cell Hby.out 4).trans rfl
  have s5 := (blk_cell Hby.out 5).trans rfl
  have r0 := (blk_cell Hbz.out 0).trans rfl
  have r1 := (blk_cell Hbz.out 1).trans rfl
  have r2 := (blk_cell Hbz.out 2).trans rfl
  have r3 := (blk_cell Hbz.out 3).trans rfl
  have r4 := (blk_cell Hbz.out 4).trans rfl
  have r5 := (blk_cell Hbz.out 5).trans rfl
  have q0 := (blk_cell Hbx.out 0).trans rfl
  have q1 := (blk_cell Hbx.out 1).trans rfl
  have q2 := (blk_cell Hbx.out 2).trans rfl
  have q3 := (blk_cell Hbx.out 3).trans rfl
  have q4 := (blk_cell Hbx.out 4).trans rfl
  have q5 := (blk_cell Hbx.out 5).trans rfl
  go_wp2_with (first
    | (with_reducible show Calls Tryd.prog 23 #[_, .agg #[.int .i64 zk, _, _, _, _, _]] _ _
       go_must (refine (same23 HVy.out _ _ HVz.out _ (Keeps.refl Nob _) HJ.out.2 HJ.out.2).mono ?_; rintro e w2 ⟨rfl, hk2⟩; rw [Hsame.out])
       have HVy := Lib.hid (HVy.out.after hk2)
       have Hby := Lib.hid (hk2.blk Hby.out id)
       have HVz := Lib.hid (HVz.out.after hk2)
       have Hbz := Lib.hid (hk2.blk Hbz.out id)
       have HVx := Lib.hid (HVx.out.after hk2)
       have Hbx := Lib.hid (hk2.blk Hbx.out id)
       have HK := Lib.hid (HK.out.trans hk2 (fun _ _ h => h))
       clear hk2 s0 s1 s2 s3 s4 s5 r0 r1 r2 r3 r4 r5 q0 q1 q2 q3 q4 q5
       have s0 := (blk_cell Hby.out 0).trans rfl
       have s1 := (blk_cell Hby.out 1).trans rfl
       have s2 := (blk_cell Hby.out 2).trans rfl
       have s3 := (blk_cell Hby.out 3).trans rfl
       have s4 := (blk_cell Hby.out 4).trans rfl
       have s5 := (blk_cell Hby.out 5).trans rfl
       have r0 := (blk_cell Hbz.out 0).trans rfl
       have r1 := (blk_cell Hbz.out 1).trans rfl
       have r2 := (blk_cell Hbz.out 2).trans rfl
       have r3 := (blk_cell Hbz.out 3).trans rfl
       have r4 := (blk_cell Hbz.out 4).trans rfl
       have r5 := (blk_cell Hbz.out 5).trans rfl
       have q0 := (blk_cell Hbx.out 0).trans rfl
       have q1 := (blk_cell Hbx.out 1).trans rfl
       have q2 := (blk_cell Hbx.out 2).trans rfl
       have q3 := (blk_cell Hbx.out 3).trans rfl
       have q4 := (blk_cell Hbx.out 4).trans rfl
       have q5 := (blk_cell Hbx.out 5).trans rfl
       (try simp only [PU]))
    | (with_reducible show Calls Tryd.prog 23 #[_, .agg #[.int .i64 xk, _, _, _, _, _]] _ _
       go_must (refine (same23 HVy.out _ _ HVx.out _ (Keeps.refl Nob _) HJ.out.2 HJ.out.2).mono ?_; rintro e w2 ⟨rfl, hk2⟩; rw [Hsame.out])
       have HVy := Lib.hid (HVy.out.after hk2)
       have Hby := Lib.hid (hk2.blk Hby.out id)
       have HVz := Lib.hid (HVz.out.after hk2)
       have Hbz := Lib.hid (hk2.blk Hbz.out id)
       have HVx := Lib.hid (HVx.out.after hk2)
       have Hbx := Lib.hid (hk2.blk Hbx.out id)
       have HK := Lib.hid (HK.out.trans hk2 (fun _ _ h => h))
       clear hk2 s0 s1 s2 s3 s4 s5 r0 r1 r2 r3 r4 r5 q0 q1 q2 q3 q4 q5
       have s0 := (blk_cell Hby.out 0).trans rfl
       have s1 := (blk_cell Hby.out 1).trans rfl
       have s2 := (blk_cell Hby.out 2).trans rfl
       have s3 := (blk_cell Hby.out 3).trans rfl
       have s4 := (blk_cell Hby.out 4).trans rfl
       have s5 := (blk_cell Hby.out 5).trans rfl
       have r0 := (blk_cell Hbz.out 0).trans rfl
       have r1 := (blk_cell Hbz.out 1).trans rfl
       have r2 := (blk_cell Hbz.out 2).trans rfl
       have r3 := (blk_cell Hbz.out 3).trans rfl
       have r4 := (blk_cell Hbz.out 4).trans rfl
       have r5 := (blk_cell Hbz.out 5).trans rfl
       have q0 := (blk_cell Hbx.out 0).trans rfl
       have q1 := (blk_cell Hbx.out 1).trans rfl
       have q2 := (blk_cell Hbx.out 2).trans rfl
       have q3 := (blk_cell Hbx.out 3).trans rfl
       have q4 := (blk_cell Hbx.out 4).trans rfl
       have q5 := (blk_cell Hbx.out 5).trans rfl
       (try simp only [PU]))
    | (go_at_call 24; go_must (refine (H24s.out _).mono ?_; rintro e w2 ⟨rfl, hk2⟩)
       have HVy := Lib.hid (HVy.out.after hk2)
       have Hby := Lib.hid (hk2.blk Hby.out id)
       have HVz := Lib.hid (HVz.out.after hk2)
       have Hbz := Lib.hid (hk2.blk Hbz.out id)
       have HVx := Lib.hid (HVx.out.after hk2)
       have Hbx := Lib.hid (hk2.blk Hbx.out id)
       have HK := Lib.hid (HK.out.trans hk2 (fun _ _ h => h))
       clear hk2 s0 s1 s2 s3 s4 s5 r0 r1 r2 r3 r4 r5 q0 q1 q2 q3 q4 q5
       have s0 := (blk_cell Hby.out 0).trans rfl
       have s1 := (blk_cell Hby.out 1).trans rfl
       have s2 := (blk_cell Hby.out 2).trans rfl
       have s3 := (blk_cell Hby.out 3).trans rfl
       have s4 := (blk_cell Hby.out 4).trans rfl
       have s5 := (blk_cell Hby.out 5).trans rfl
       have r0 := (blk_cell Hbz.out 0).trans rfl
       have r1 := (blk_cell Hbz.out 1).trans rfl
       have r2 := (blk_cell Hbz.out 2).trans rfl
       have r3 := (blk_cell Hbz.out 3).trans rfl
       have r4 := (blk_cell Hbz.out 4).trans rfl
       have r5 := (blk_cell Hbz.out 5).trans rfl
       have q0 := (blk_cell Hbx.out 0).trans rfl
       have q1 := (blk_cell Hbx.out 1).trans rfl
       have q2 := (blk_cell Hbx.out 2).trans rfl
       have q3 := (blk_cell Hbx.out 3).trans rfl
       have q4 := (blk_cell Hbx.out 4).trans rfl
       have q5 := (blk_cell Hbx.out 5).trans rfl
       (try simp only [PU]))
    | (go_at_call 16; go_must (refine (check16 HVy.out (Tab.after HT.out HK.out) HJ.out.1).mono ?_; rintro e w2 ⟨rfl, hk2⟩; rw [HC.out])
       have HVy := Lib.hid (HVy.out.after hk2)
       have Hby := Lib.hid (hk2.blk Hby.out id)
       have HVz := Lib.hid (HVz.out.after hk2)
       have Hbz := Lib.hid (hk2.blk Hbz.out id)
       have HVx := Lib.hid (HVx.out.after hk2)
       have Hbx := Lib.hid (hk2.blk Hbx.out id)
       have HK := Lib.hid (HK.out.trans hk2 (fun _ _ h => h))
       clear hk2 s0 s1 s2 s3 s4 s5 r0 r1 r2 r3 r4 r5 q0 q1 q2 q3 q4 q5
       have s0 := (blk_cell Hby.out 0).trans rfl
       have s1 := (blk_cell Hby.out 1).trans rfl
       have s2 := (blk_cell Hby.out 2).trans rfl
       have s3 := (blk_cell Hby.out 3).trans rfl
       have s4 := (blk_cell Hby.out 4).trans rfl
       have s5 := (blk_cell Hby.out 5).trans rfl
       have r0 := (blk_cell Hbz.out 0).trans rfl
       have r1 := (blk_cell Hbz.out 1).trans rfl
       have r2 := (blk_cell Hbz.out 2).trans rfl
       have r3 := (blk_cell Hbz.out 3).trans rfl
       have r4 := (blk_cell Hbz.out 4).trans rfl
       have r5 := (blk_cell Hbz.out 5).trans rfl
       have q0 := (blk_cell Hbx.out 0).trans rfl
       have q1 := (blk_cell Hbx.out 1).trans rfl
       have q2 := (blk_cell Hbx.out 2).trans rfl
       have q3 := (blk_cell Hbx.out 3).trans rfl
       have q4 := (blk_cell Hbx.out 4).trans rfl
       have q5 := (blk_cell Hbx.out 5).trans rfl
       (try simp only [PU]))
    | (go_at_call 13; go_must (refine (alive13 (Tab.after HT.out HK.out)).mono ?_; rintro e w3 ⟨rfl, hk3⟩); have HKz := Lib.hid (HK.out.trans hk3 (fun _ _ h => h)); clear hk3; (try simp only [PU]))
  )
  go_ret
  exact ⟨rfl, HKz.out⟩
theorem WireText_any (w : World) (ht : Tab w w.heap.size) (T : ByteArray) : Calls Tryd.prog 7 #[.string T] w fun e w' => e = .returned (.bool true) ∧ Keeps Nob w w' := by
  by_cases hT : T.size ≤ 3000
  · rcases hr : readJ (bl T) with a | j
    · exact WireText_bad w ht T hT a hr
    · exact WireText_ok w ht T hT j hr
  · exact WireText_long w ht T (by omega)
end Go.Proofs.WV

/-
  The plain law of layer 30 (wire): how large a value is, as the laws count it. No program in sight; no condition.
-/
namespace Go.Proofs.WM

mutual
def sizeS : J → Nat → Nat
  | .mk _ _ _ t ks vs, left => goS (1 + t.size + ks.length + (ks.map ByteArray.size).sum) left vs
def goS : Nat → Nat → List J → Nat
  | n, _, [] => n
  | n, left, v :: r => if left < n then n else goS (n + sizeS v (left - n)) left r
end
mutual
theorem sizeS_le : ∀ (j : J) (left : Nat), sizeS j left ≤ sizeJ j ∧ (sizeS j left ≤ left → sizeS j left = sizeJ j)
  | .mk k b n t ks vs, left => by
    have h := goS_le vs (1 + t.size + ks.length + (ks.map ByteArray.size).sum) left
    unfold sizeS sizeJ
    exact h
theorem goS_le : ∀ (vs : List J) (n left : Nat), goS n left vs ≤ n + sizeL vs ∧ (goS n left vs ≤ left → goS n left vs = n + sizeL vs)
  | [], n, left => by unfold goS sizeL; exact ⟨by omega, fun _ => by omega⟩
  | v :: r, n, left => by
    unfold goS sizeL
    by_cases h : left < n
    · rw [if_pos h]; exact ⟨by omega, fun h' => by omega⟩
    · rw [if_neg h]
      have h1 := sizeS_le v (left - n)
      have h2 := goS_le r (n + sizeS v (left - n)) left
      have h3 : n + sizeS v (left - n) ≤ goS (n + sizeS v (left - n)) left r := goS_ge r _ _
      refine ⟨by omega, fun h' => ?_⟩
      have := h2.2 h'
      have := h1.2 (by omega)
      omega
theorem goS_ge : ∀ (vs : List J) (n left : Nat), n ≤ goS n left vs
  | [], n, left => by unfold goS; exact Nat.le_refl _
  | v :: r, n, left => by
    unfold goS
    split
    · exact Nat.le_refl _
    · have := goS_ge r (n + sizeS v (left - n)) left
      omega
end
/-- Counted up to a bound, it passes the bound if and only if the value does. -/
theorem sizeS_iff (j : J) (left : Nat) : left < sizeS j left ↔ left < sizeJ j := by
  have h := sizeS_le j left
  constructor
  · intro h'; omega
  · intro h'
    rcases Nat.lt_or_ge left (sizeS j left) with h2 | h2
    · exact h2
    · have := h.2 h2; omega
theorem sum_take (ks : List ByteArray) (j : Nat) (hj : j < ks.length) : ((ks.take (j + 1)).map ByteArray.size).sum = ((ks.take j).map ByteArray.size).sum + (ks.getD j ByteArray.empty).size := by
  rw [List.take_succ_eq_append_getElem hj, List.map_append, List.sum_append, List.getD_eq_getElem?_getD, List.getElem?_eq_getElem hj]
  simp
theorem sum_take_le (ks : List ByteArray) (j : Nat) : ((ks.take j).map ByteArray.size).sum ≤ (ks.map ByteArray.size).sum := by
  have : (ks.map ByteArray.size).sum = ((ks.take j).map ByteArray.size).sum + ((ks.drop j).map ByteArray.size).sum := by
    rw [← List.sum_append, ← List.map_append, List.take_append_drop]
  omega
theorem dropJ {vs : List J} {j : Nat} (hj : j < vs.length) : vs.drop j = vs.getD j default :: vs.drop (j + 1) := by
  rw [List.drop_eq_getElem_cons hj, List.getD_eq_getElem?_getD, List.getElem?_eq_getElem hj]
  rfl
end Go.Proofs.WM

/-
  How large a value is (Size), by the specification, in memory. Condition: the value lies; its size is not greater than an int counts.
-/
namespace Go.Proofs.WV
open Go.RowKit Go.Proofs.KL Go.Proofs.WM
set_option maxRecDepth 100000
set_option linter.unusedSimpArgs false
set_option linter.unusedVariables false

set_option maxHeartbeats 4000000 in
theorem size34 {w : World} {X : Nat → Prop} {v : Value} {j : J} (h : JX w X v j) : ∀ W (left : Nat), Keeps Nob w W → sizeJ j ≤ 1000000000000 → left ≤ 1000000000000 → Calls Tryd.prog 34 #[v, .int .i64 left] W fun e w' => e = .returned (.int .i64 (sizeS j left)) ∧ Keeps Nob W w' := by
  induction h with
  | mk k b n t ks vs kv A c u h1 hc hA hv ih =>
    intro W left hW hb hleft
    obtain ⟨i25, hi25, hs25⟩ := info25
    have HI := Lib.hid (And.intro hi25 hs25)
    have HA := Lib.hid hA
    have IH := Lib.hid ih
    have HV := Lib.hid hv
    have HW := Lib.hid hW
    obtain ⟨kA, kc, rfl, hkc, hkx⟩ := id h1
    have HKX := Lib.hid hkx
    have Hb := Lib.hid (show 1 + t.size + ks.length + (ks.map ByteArray.size).sum + sizeL vs ≤ 1000000000000 by have h' := hb; unfold sizeJ at h'; exact h')
    obtain ⟨R, hR⟩ : ∃ x, sizeS (.mk k b n t ks vs) left = x := ⟨_, rfl⟩
    rw [hR]
    have HR := Lib.hid (show goS (1 + t.size + ks.length + (ks.map ByteArray.size).sum) left vs = R by rw [← hR]; unfold sizeS; rfl)
    have Hsz := Lib.hid (show vs.length ≤ sizeL vs from size_len vs)
    obtain ⟨kl, hkl⟩ : ∃ x, ks.length = x := ⟨_, rfl⟩
    have Hkl := Lib.hid hkl
    obtain ⟨len, hlen⟩ : ∃ x, vs.length = x := ⟨_, rfl⟩
    have Hlen := Lib.hid hlen
    have hbk : (t.size : Int) ≤ 1000000000000 ∧ (kl : Int) ≤ 1000000000000 ∧ (len : Int) ≤ 1000000000000 := by have h1 := Hb.out; have h2 := Hsz.out; omega
    obtain ⟨hbt, hbk, hbl⟩ := hbk
    rw [hlen, hkl]
    rw [hkl] at hkc
    clear h1 hc hA hv ih hW hlen hkl hi25 hs25 hR hkx hb
    go_enter Tryd.func34, Tryd.ntmps34
    go_wp2_with (first
      | ((with_reducible refine at_dst (N := 2) rfl ?_); go_must (refine ev_box (cs := #[.int .i64 k, .bool b, .int .i64 n, .string t, .slice kA kl kc, .slice A len c]) rfl rfl rfl ?_; intro g1 w1 hg1 hl1 hb1 hk1)
         have v3 := (blk_cell hb1 3).trans rfl
         have v4 := (blk_cell hb1 4).trans rfl
         have v5 := (blk_cell hb1 5).trans rfl
         have Hb1 := Lib.hid hb1
         have HK1 := Lib.hid hk1
         clear hb1 hk1
         (try simp only [PU]))
    )
    obtain ⟨n0, hn0⟩ : ∃ x : Nat, 1 + t.size + kl = x := ⟨_, rfl⟩
    have Hn0 := Lib.hid hn0
    have hn0i : 1 + (t.size : Int) + (kl : Int) = (n0 : Int) := by omega
    rw [hn0i]
    clear hn0 hn0i v3 v4
    go_loopw [21, 5] (fun iv nv wr => ∃ i : Nat, iv = .int .i64 i ∧ i ≤ kl ∧ nv = .int .i64 ((n0 + ((ks.take i).map ByteArray.size).sum : Nat) : Int) ∧ Hid (wr = w1)) (fun iv _ _ => kl - (intOf iv).toNat)
    case atStart => exact ⟨0, rfl, Nat.zero_le _, by simp, Lib.hid rfl⟩
    case round =>
      obtain ⟨i, rfl, hi, rfl, Hw⟩ := hrel
      have hw : w1 = wr := Hw.out.symm
      subst hw
      by_cases hlt : i < kl
      · obtain ⟨b', o, rfl, -, hcell⟩ := HKX.out i (by rw [Hkl.out]; exact hlt)
        have kc0 := (HW.out.trans HK1.out (fun _ _ h => h)).cell hcell id
        have hst := sum_take ks i (by rw [Hkl.out]; exact hlt)
        have hsl := sum_take_le ks (i + 1)
        obtain ⟨key, hkey⟩ : ∃ x, ks.getD i ByteArray.empty = x := ⟨_, rfl⟩
        rw [hkey] at kc0 hst
        obtain ⟨m, hm⟩ : ∃ x, n0 + ((ks.take i).map ByteArray.size).sum = x := ⟨_, rfl⟩
        have hmb : (m : Int) ≤ 1000000000000 ∧ (key.size : Int) ≤ 1000000000000 := by have h1 := Hb.out; have h2 := Hn0.out; have h3 := Hkl.out; omega
        obtain ⟨hmb1, hmb2⟩ := hmb
        have Hst := Lib.hid (show n0 + ((ks.take (i + 1)).map ByteArray.size).sum = m + key.size by omega)
        rw [hm]
        clear hcell hst hsl hkey hm
        go_wp2
        go_roundw
        case rel => exact ⟨i + 1, by go_num, by omega, by rw [Hst.out] <;> (congr 1), by first | exact Lib.hid rfl | exact Lib.hid trivial⟩
        case measure => simp [intOf]; omega
      · have hi' : i = kl := by omega
        subst hi'
        have htl := List.take_length (l := ks)
        rw [Hkl.out] at htl
        rw [htl]
        obtain ⟨m, hm⟩ : ∃ x, n0 + (ks.map ByteArray.size).sum = x := ⟨_, rfl⟩
        have HG0 := Lib.hid (show goS m left vs = R by rw [← HR.out, ← hm, ← Hn0.out, Hkl.out])
        have Hm := Lib.hid (show m + sizeL vs ≤ 1000000000000 by have h1 := Hb.out; have h2 := Hn0.out; have h3 := Hkl.out; omega)
        rw [hm]
        clear htl hm
        go_wp2
        go_loopw [33, 5] (fun iv nv wr => ∃ i n1 : Nat, iv = .int .i64 i ∧ i ≤ len ∧ nv = .int .i64 n1 ∧ Hid (goS n1 left (vs.drop i) = R) ∧ Hid (n1 + sizeL (vs.drop i) ≤ 1000000000000) ∧ Hid (Keeps Nob W wr)) (fun iv _ _ => len - (intOf iv).toNat)
        case atStart => exact ⟨0, m, rfl, Nat.zero_le _, rfl, HG0, Hm, HK1⟩
        case round =>
          obtain ⟨i, n1, rfl, hi, rfl, HG, Hn1, HKr⟩ := hrel
          by_cases hlt : i < len
          · have hdrop := dropJ (vs := vs) (j := i) (by rw [Hlen.out]; exact hlt)
            obtain ⟨b', o, rfl, -, h6⟩ := HA.out i (by rw [Hlen.out]; exact hlt)
            obtain ⟨⟨e0, e1, e2⟩, e3, e4, e5⟩ := h6.keep (HW.out.trans HKr.out (fun _ _ h => h)) id
            have hg := HG.out
            have hnn := Hn1.out
            rw [hdrop] at hg hnn
            unfold goS at hg
            unfold sizeL at hnn
            have hsix := (HV.out i (by rw [Hlen.out]; exact hlt)).six
            have hrun := IH.out i (by rw [Hlen.out]; exact hlt)
            have hsle := (sizeS_le (vs.getD i default) (left - n1)).1
            generalize vs.getD i default = vj at *
            have hn1i : (n1 : Int) ≤ 1000000000000 := by omega
            generalize u i 0 = x0 at *
            generalize u i 1 = x1 at *
            generalize u i 2 = x2 at *
            generalize u i 3 = x3 at *
            generalize u i 4 = x4 at *
            generalize u i 5 = x5 at *
            obtain ⟨y0, y1, y2, y3, yA, yn, yc, yB, ym, yd, ⟨rfl, rfl, rfl⟩, rfl, rfl, rfl⟩ := hsix
            have hleftI : (left : Int) ≤ 1000000000000 := by omega
            by_cases hout : left < n1
            · rw [if_pos hout] at hg
              have HRR := Lib.hid hg
              have hti : (left : Int) < (n1 : Int) := by omega
              clear hg hnn hrun hsle hdrop h6 hout
              go_wp2_with (first
                | ((with_reducible refine at_dst (N := 9) rfl ?_); go_must (refine ev_alloc rfl rfl zero25 rfl ?_; intro g5 w2 hg5 hl5 hb5 hk5)
                   have Hb5 := Lib.hid hb5
                   have HK2 := Lib.hid hk5
                   clear hb5 hk5
                   (try simp only [PU]))
                | ((with_reducible refine at_store (t := 25) (p := 9) rfl ?_); go_must (refine ev_store (cs' := #[.int .i64 y0, .bool y1, .int .i64 y2, .string y3, .slice yA yn yc, .slice yB ym yd]) rfl rfl rfl rfl rfl rfl HI.out.1 HI.out.2 rfl Hb5.out (Nat.le_of_ble_eq_true rfl) rfl ?_; intro w3 hb3 hk3)
                   have s0 := (blk_cell hb3 0).trans rfl
                   have s1 := (blk_cell hb3 1).trans rfl
                   have s2 := (blk_cell hb3 2).trans rfl
                   have s3 := (blk_cell hb3 3).trans rfl
                   have s4 := (blk_cell hb3 4).trans rfl
                   have s5 := (blk_cell hb3 5).trans rfl
                   have HK3 := Lib.hid (show Keeps Nob W w3 from HKr.out.trans (HK2.out.own hk3 hg5) (fun _ _ h => h))
                   clear hb3 hk3
                   (try simp only [PU]))
              )
              go_ret
              rw [← HRR.out]
              exact ⟨rfl, HK3.out⟩
            · rw [if_neg hout] at hg
              have hti : ¬ (left : Int) < (n1 : Int) := by omega
              have hsub : (left : Int) - (n1 : Int) = ((left - n1 : Nat) : Int) := by omega
              have Hrun := Lib.hid (fun W' hk => hrun W' (left - n1) hk (by omega) (by omega))
              obtain ⟨d, hd⟩ : ∃ d, left - n1 = d := ⟨_, rfl⟩
              rw [hd] at hg hsub Hrun hsle
              obtain ⟨m1, hm1⟩ : ∃ m, sizeS vj d = m := ⟨_, rfl⟩
              rw [hm1] at hg hsle
              have Hm1 := Lib.hid hm1
              have HGn := Lib.hid hg
              have hm1i : (m1 : Int) ≤ 1000000000000 := by omega
              have Hnn := Lib.hid (show n1 + m1 + sizeL (vs.drop (i + 1)) ≤ 1000000000000 by omega)
              clear hg hnn hrun hsle hdrop h6 hout hd hm1
              go_wp2_with (first
                | ((with_reducible refine at_dst (N := 9) rfl ?_); go_must (refine ev_alloc rfl rfl zero25 rfl ?_; intro g5 w2 hg5 hl5 hb5 hk5)
                   have Hb5 := Lib.hid hb5
                   have HK2 := Lib.hid hk5
                   clear hb5 hk5
                   (try simp only [PU]))
                | ((with_reducible refine at_store (t := 25) (p := 9) rfl ?_); go_must (refine ev_store (cs' := #[.int .i64 y0, .bool y1, .int .i64 y2, .string y3, .slice yA yn yc, .slice yB ym yd]) rfl rfl rfl rfl rfl rfl HI.out.1 HI.out.2 rfl Hb5.out (Nat.le_of_ble_eq_true rfl) rfl ?_; intro w3 hb3 hk3)
                   have s0 := (blk_cell hb3 0).trans rfl
                   have s1 := (blk_cell hb3 1).trans rfl
                   have s2 := (blk_cell hb3 2).trans rfl
                   have s3 := (blk_cell hb3 3).trans rfl
                   have s4 := (blk_cell hb3 4).trans rfl
                   have s5 := (blk_cell hb3 5).trans rfl
                   have HK3 := Lib.hid (show Keeps Nob W w3 from HKr.out.trans (HK2.out.own hk3 hg5) (fun _ _ h => h))
                   clear hb3 hk3
                   (try simp only [PU]))
                | (go_at_call 34; go_must (refine (Hrun.out w3 (HW.out.trans HK3.out (fun _ _ h => h))).mono ?_; rintro e w4 ⟨rfl, hk4⟩); rw [Hm1.out]; have HK4 := Lib.hid (HK3.out.trans hk4 (fun _ _ h => h)); clear hk4; (try simp only [PU]))
              )
              go_roundw
              case rel => exact ⟨i + 1, n1 + m1, by go_num, by omega, by first | rfl | (congr 1), HGn, Hnn, HK4⟩
              case measure => simp [intOf]; omega
          · have hi' : i = len := by omega
            subst hi'
            have HRR := Lib.hid (show n1 = R by
              have hg := HG.out
              rw [List.drop_of_length_le (by rw [Hlen.out]; exact Nat.le_refl _)] at hg
              unfold goS at hg
              exact hg)
            go_wp2
            go_ret
            rw [← HRR.out]
            exact ⟨rfl, HKr.out⟩
end Go.Proofs.WV

/-
  The laws' small, by the program, in memory. Condition: the values lie; their sizes are not greater than an int counts.
-/
namespace Go.Proofs.WV
open Go.RowKit Go.Proofs.KL Go.Proofs.WM
set_option maxRecDepth 100000
set_option linter.unusedSimpArgs false
set_option linter.unusedVariables false

def smallJ (vs : List J) : Bool := vs.all fun j => decide (sizeJ j ≤ 3000)
set_option maxHeartbeats 4000000 in
theorem small12 {W : World} {X : Nat → Prop} {A : Option Addr} {len c : Nat} {vs : List J} (h : JsX W X (.slice A len c) vs) (hb : ∀ j ∈ vs, sizeJ j ≤ 1000000000000) (hlen : len ≤ 1000000000) : Calls Tryd.prog 12 #[.slice A len c] W fun e w' => e = .returned (.bool (smallJ vs)) ∧ Keeps Nob W w' := by
  obtain ⟨A', c', u, e, hc, hA, hv⟩ := h
  injection e with e1 e2 e3
  subst e1; subst e3
  obtain ⟨i25, hi25, hs25⟩ := info25
  have HI := Lib.hid (And.intro hi25 hs25)
  have Hlen := Lib.hid e2
  have HA := Lib.hid hA
  have HV := Lib.hid hv
  have Hb := Lib.hid hb
  obtain ⟨R, hR⟩ : ∃ x, smallJ vs = x := ⟨_, rfl⟩
  have HR := Lib.hid hR
  rw [hR]
  have hli : (len : Int) ≤ 1000000000 := by omega
  clear e2 hA hv hb hR hi25 hs25 hc
  go_enter Tryd.func12, Tryd.ntmps12
  go_wp2
  go_loopw [7] (fun iv wr => ∃ i : Nat, iv = .int .i64 i ∧ i ≤ len ∧ Hid (smallJ (vs.drop i) = R) ∧ Hid (Keeps Nob W wr)) (fun iv _ => len - (intOf iv).toNat)
  case atStart => exact ⟨0, rfl, Nat.zero_le _, HR, Lib.hid (Keeps.refl _ _)⟩
  case round =>
    obtain ⟨i, rfl, hi, HG, HKr⟩ := hrel
    by_cases hlt : i < len
    · have hdrop := dropJ (vs := vs) (j := i) (by rw [← Hlen.out]; exact hlt)
      obtain ⟨b', o, rfl, -, h6⟩ := HA.out i (by rw [← Hlen.out]; exact hlt)
      obtain ⟨⟨e0, e1, e2⟩, e3, e4, e5⟩ := h6.keep HKr.out id
      have hg := HG.out
      rw [hdrop] at hg
      have hg' : (decide (sizeJ (vs.getD i default) ≤ 3000) && smallJ (vs.drop (i + 1))) = R := hg
      have hjx := HV.out i (by rw [← Hlen.out]; exact hlt)
      have hsix := hjx.six
      have hbv := Hb.out (vs.getD i default) (by
        rw [List.getD_eq_getElem?_getD, List.getElem?_eq_getElem (by rw [← Hlen.out]; exact hlt)]
        exact List.getElem_mem _)
      have hsi := sizeS_iff (vs.getD i default) 3000
      have hsb := (sizeS_le (vs.getD i default) 3000).1
      have Hrun := Lib.hid (fun W' (hk : Keeps Nob W W') => size34 hjx W' 3000 hk hbv (by decide))
      generalize vs.getD i default = vj at *
      generalize u i 0 = x0 at *
      generalize u i 1 = x1 at *
      generalize u i 2 = x2 at *
      generalize u i 3 = x3 at *
      generalize u i 4 = x4 at *
      generalize u i 5 = x5 at *
      obtain ⟨y0, y1, y2, y3, yA, yn, yc, yB, ym, yd, ⟨rfl, rfl, rfl⟩, rfl, rfl, rfl⟩ := hsix
      obtain ⟨m, hm⟩ : ∃ m, sizeS vj 3000 = m := ⟨_, rfl⟩
      rw [hm] at hsi hsb
      have Hm := Lib.hid hm
      by_cases hbig : 3000 < m
      · have HRR := Lib.hid (show false = R by rw [← hg', decide_eq_false (by have := hsi.1 hbig; omega)]; rfl)
        have hmi : (3000 : Int) < (m : Int) := by omega
        clear hg hg' hdrop h6 hsi hsb hm hjx hbv hbig
        go_wp2_with (first
          | ((with_reducible refine at_dst (N := 4) rfl ?_); go_must (refine ev_alloc rfl rfl zero25 rfl ?_; intro g5 w2 hg5 hl5 hb5 hk5)
             have Hb5 := Lib.hid hb5
             have HK2 := Lib.hid hk5
             clear hb5 hk5
             (try simp only [PU]))
          | ((with_reducible refine at_store (t := 25) (p := 4) rfl ?_); go_must (refine ev_store (cs' := #[.int .i64 y0, .bool y1, .int .i64 y2, .string y3, .slice yA yn yc, .slice yB ym yd]) rfl rfl rfl rfl rfl rfl HI.out.1 HI.out.2 rfl Hb5.out (Nat.le_of_ble_eq_true rfl) rfl ?_; intro w3 hb3 hk3)
             have s0 := (blk_cell hb3 0).trans rfl
             have s1 := (blk_cell hb3 1).trans rfl
             have s2 := (blk_cell hb3 2).trans rfl
             have s3 := (blk_cell hb3 3).trans rfl
             have s4 := (blk_cell hb3 4).trans rfl
             have s5 := (blk_cell hb3 5).trans rfl
             have HK3 := Lib.hid (show Keeps Nob W w3 from HKr.out.trans (HK2.out.own hk3 hg5) (fun _ _ h => h))
             clear hb3 hk3
             (try simp only [PU]))
          | (go_at_call 34; go_must (refine (Hrun.out w3 HK3.out).mono ?_; rintro e w4 ⟨rfl, hk4⟩); rw [Hm.out]; have HK4 := Lib.hid (HK3.out.trans hk4 (fun _ _ h => h)); clear hk4; (try simp only [PU]))
        )
        go_ret
        rw [← HRR.out]
        exact ⟨rfl, HK4.out⟩
      · have HRR := Lib.hid (show smallJ (vs.drop (i + 1)) = R by rw [← hg', decide_eq_true (by rcases Nat.lt_or_ge 3000 (sizeJ vj) with h | h; exact absurd (hsi.2 h) hbig; exact h)]; rfl)
        have hmi : ¬ (3000 : Int) < (m : Int) := by omega
        clear hg hg' hdrop h6 hsi hsb hm hjx hbv hbig
        go_wp2_with (first
          | ((with_reducible refine at_dst (N := 4) rfl ?_); go_must (refine ev_alloc rfl rfl zero25 rfl ?_; intro g5 w2 hg5 hl5 hb5 hk5)
             have Hb5 := Lib.hid hb5
             have HK2 := Lib.hid hk5
             clear hb5 hk5
             (try simp only [PU]))
          | ((with_reducible refine at_store (t := 25) (p := 4) rfl ?_); go_must (refine ev_store (cs' := #[.int .i64 y0, .bool y1, .int .i64 y2, .string y3, .slice yA yn yc, .slice yB ym yd]) rfl rfl rfl rfl rfl rfl HI.out.1 HI.out.2 rfl Hb5.out (Nat.le_of_ble_eq_true rfl) rfl ?_; intro w3 hb3 hk3)
             have s0 := (blk_cell hb3 0).trans rfl
             have s1 := (blk_cell hb3 1).trans rfl
             have s2 := (blk_cell hb3 2).trans rfl
             have s3 := (blk_cell hb3 3).trans rfl
             have s4 := (blk_cell hb3 4).trans rfl
             have s5 := (blk_cell hb3 5).trans rfl
             have HK3 := Lib.hid (show Keeps Nob W w3 from HKr.out.trans (HK2.out.own hk3 hg5) (fun _ _ h => h))
             clear hb3 hk3
             (try simp only [PU]))
          | (go_at_call 34; go_must (refine (Hrun.out w3 HK3.out).mono ?_; rintro e w4 ⟨rfl, hk4⟩); rw [Hm.out]; have HK4 := Lib.hid (HK3.out.trans hk4 (fun _ _ h => h)); clear hk4; (try simp only [PU]))
        )
        go_roundw
        case rel => exact ⟨i + 1, by go_num, by omega, HRR, HK4⟩
        case measure => simp [intOf]; omega
    · have hi' : i = len := by omega
      subst hi'
      have HRR := Lib.hid (show true = R by
        have hg := HG.out
        rw [List.drop_of_length_le (by rw [← Hlen.out]; exact Nat.le_refl _)] at hg
        exact hg)
      go_wp2
      go_ret
      rw [← HRR.out]
      exact ⟨rfl, HKr.out⟩
end Go.Proofs.WV

/-
  The law WireBack, by the program, in memory. Condition: the standard library's table of powers lies; the value lies, of a size that an int counts.
-/
namespace Go.Proofs.WV
open Go.RowKit Go.Proofs.KL Go.Proofs.WM
set_option maxRecDepth 100000
set_option linter.unusedSimpArgs false
set_option linter.unusedVariables false

theorem js1 {w : World} {X : Nat → Prop} {g : Nat} {x0 x1 x2 x3 x4 x5 : Value} {a : J} (hg : w.heap[g]? = some (.cells #[x0, x1, x2, x3, x4, x5] 25 (0, 0))) (hX : X g) (ha : JX w X (.agg #[x0, x1, x2, x3, x4, x5]) a) :
    JsX w X (.slice (some ⟨g, 0, none⟩) 1 1) [a] := by
  refine ⟨some ⟨g, 0, none⟩, 1, fun i k => [x0, x1, x2, x3, x4, x5].getD k lz, rfl, Nat.le_refl _, fun i hi => ⟨g, 0, rfl, hX, ?_⟩, fun i hi => ?_⟩
  · have hi' : i < 1 := hi
    match i, hi' with
    | 0, _ => exact ⟨⟨(blk_cell hg _).trans rfl, (blk_cell hg _).trans rfl, (blk_cell hg _).trans rfl⟩, (blk_cell hg _).trans rfl, (blk_cell hg _).trans rfl, (blk_cell hg _).trans rfl⟩
  · have hi' : i < 1 := hi
    match i, hi' with
    | 0, _ => exact ha
/-- What the law compares. -/
theorem back_plain {j : J} (hs : sizeJ j ≤ 3000) (hc : checkJ j = 0) : writeJ j = (textJ j, 0) ∧ readW (mkB (textJ j)) = (j, 0, 0) := by
  have hf : formedJ j = true ∧ levelsJ j ≤ 40 := by
    unfold checkJ at hc
    split at hc
    · cases hc
    split at hc
    · cases hc
    · rename_i h1 h2
      exact ⟨by simpa using h1, by omega⟩
  have ht := text_size j hf.1
  exact ⟨writeJ_ok hc, readW_ok (by show (textJ j).length ≤ _; omega) (readJ_text hf.1 hf.2) hc⟩
theorem small_one (j : J) : smallJ [j] = decide (sizeJ j ≤ 3000) := by unfold smallJ; simp
set_option maxHeartbeats 8000000 in
theorem WireBack_any {w : World} {v : Value} {j : J} (ht : Tab w w.heap.size) (h : JX w (fun _ => True) v j) (hb : sizeJ j ≤ 100000000) : Calls Tryd.prog 6 #[v] w fun e w' => e = .returned (.bool true) ∧ Keeps Nob w w' := by
  obtain ⟨jk, jb, jn, jt, ks, vs, kv, vv, hjj, rfl, hjk, hjv⟩ := h.open
  obtain ⟨kA, kc, rfl, -, -⟩ := id hjk
  obtain ⟨vA, vc, ru, rfl, -, -, -⟩ := id hjv
  generalize ks.length = kl at *
  generalize vs.length = vl at *
  obtain ⟨i25, hi25, hs25⟩ := info25
  have HI := Lib.hid (And.intro hi25 hs25)
  have HT := Lib.hid ht
  have HV := Lib.hid h.low
  have HJ := Lib.hid (show sizeJ j ≤ 10000000000 ∧ sizeJ j ≤ 1000000000000 by omega)
  have H12 := Lib.hid (fun (W' : World) (g9 : Nat) (hg : W'.heap[g9]? = some (.cells #[.int .i64 jk, .bool jb, .int .i64 jn, .string jt, .slice kA kl kc, .slice vA vl vc] 25 (0, 0))) (hx : JX W' (fun b => b < w.heap.size) (.agg #[.int .i64 jk, .bool jb, .int .i64 jn, .string jt, .slice kA kl kc, .slice vA vl vc]) j) =>
    small12 (js1 (X := fun _ => True) hg trivial (hx.keep (Keeps.refl Nob W') (fun _ _ _ => id) (fun _ _ _ => trivial))) (by simp only [List.mem_cons, List.not_mem_nil, or_false]; rintro j' rfl; omega) (by decide))
  rw [small_one] at H12
  clear ht h hjk hjv hi25 hs25
  by_cases hsm : sizeJ j ≤ 3000
  · have Hsm := Lib.hid (decide_eq_true hsm)
    by_cases hc : checkJ j = 0
    · obtain ⟨p1, p2⟩ := back_plain hsm hc
      have h15 : ∀ W X v, JX W X v j → Tab W W.heap.size → Calls Tryd.prog 15 #[v] W fun e w' => e = .returned (.tuple #[.string (mkB (textJ j)), .int .i64 0]) ∧ Keeps Nob W w' := fun W X v h ht => by
        have := write15 h ht HJ.out.1
        rw [p1] at this
        exact this
      have h18 := fun W ht => Read_any (w := W) (T := mkB (textJ j)) ht
      rw [p2] at h18
      generalize mkB (textJ j) = S at *
      have H15 := Lib.hid h15
      have H18 := Lib.hid h18
      have Hsame := Lib.hid (show sameJ j j = true from (sameJ_iff _ _).2 rfl)
      clear hsm hc p1 p2 h15 h18 hjj hb
      go_enter Tryd.func6, Tryd.ntmps6
      go_upto_region 7 with (first
        | ((with_reducible refine at_dst (N := 1) rfl ?_); go_must (refine ev_box (cs := #[.int .i64 jk, .bool jb, .int .i64 jn, .string jt, .slice kA kl kc, .slice vA vl vc]) rfl rfl rfl ?_; intro g1 w1 hg1 hl1 hb1 hk1)
           have Hb1 := Lib.hid hb1
           have HV := Lib.hid (HV.out.after hk1)
           have HK := Lib.hid hk1
           have s0 := (blk_cell Hb1.out 0).trans rfl
           have s1 := (blk_cell Hb1.out 1).trans rfl
           have s2 := (blk_cell Hb1.out 2).trans rfl
           have s3 := (blk_cell Hb1.out 3).trans rfl
           have s4 := (blk_cell Hb1.out 4).trans rfl
           have s5 := (blk_cell Hb1.out 5).trans rfl
           clear hb1 hk1 hg1 hl1
           (try simp only [PU]))
        | ((with_reducible refine at_dst (N := 9) rfl ?_); go_must (refine ev_slice (cs := #[.int .i64 jk, .bool jb, .int .i64 jn, .string jt, .slice kA kl kc, .slice vA vl vc]) (t := 25) (n := 1) (c := 1) rfl (by first | (go_simp; done) | (go_simp; rfl)) ?_; intro g9 w2 hg2 hl2 hb2 hk2)
           have Hb9 := Lib.hid hb2
           have Hb1 := Lib.hid (hk2.blk Hb1.out id)
           have HV := Lib.hid (HV.out.after hk2)
           have HK := Lib.hid (HK.out.trans hk2 (fun _ _ h => h))
           clear hb2 hk2 hg2 hl2 s0 s1 s2 s3 s4 s5
           have s0 := (blk_cell Hb1.out 0).trans rfl
           have s1 := (blk_cell Hb1.out 1).trans rfl
           have s2 := (blk_cell Hb1.out 2).trans rfl
           have s3 := (blk_cell Hb1.out 3).trans rfl
           have s4 := (blk_cell Hb1.out 4).trans rfl
           have s5 := (blk_cell Hb1.out 5).trans rfl
           (try simp only [PU]))
        | (go_at_call 12; go_must (refine (H12.out _ _ Hb9.out HV.out).mono ?_; rintro e w3 ⟨rfl, hk3⟩; rw [Hsm.out])
           have Hb1 := Lib.hid (hk3.blk Hb1.out id)
           have HV := Lib.hid (HV.out.after hk3)
           have HK := Lib.hid (HK.out.trans hk3 (fun _ _ h => h))
           clear hk3 s0 s1 s2 s3 s4 s5
           have s0 := (blk_cell Hb1.out 0).trans rfl
           have s1 := (blk_cell Hb1.out 1).trans rfl
           have s2 := (blk_cell Hb1.out 2).trans rfl
           have s3 := (blk_cell Hb1.out 3).trans rfl
           have s4 := (blk_cell Hb1.out 4).trans rfl
           have s5 := (blk_cell Hb1.out 5).trans rfl
           (try simp only [PU]))
        | (go_at_call 15; go_must (refine (H15.out _ _ _ HV.out (Tab.after HT.out HK.out)).mono ?_; rintro e w4 ⟨rfl, hk4⟩)
           have Hb1 := Lib.hid (hk4.blk Hb1.out id)
           have HV := Lib.hid (HV.out.after hk4)
           have HK := Lib.hid (HK.out.trans hk4 (fun _ _ h => h))
           clear hk4 s0 s1 s2 s3 s4 s5
           have s0 := (blk_cell Hb1.out 0).trans rfl
           have s1 := (blk_cell Hb1.out 1).trans rfl
           have s2 := (blk_cell Hb1.out 2).trans rfl
           have s3 := (blk_cell Hb1.out 3).trans rfl
           have s4 := (blk_cell Hb1.out 4).trans rfl
           have s5 := (blk_cell Hb1.out 5).trans rfl
           (try simp only [PU]))
        | (go_at_call 18; go_must (refine (H18.out _ (Tab.after HT.out HK.out)).mono ?_; rintro e w5 ⟨⟨v1, rfl, hv1⟩, hk5⟩; obtain ⟨xk, xb, xn, xt, xks, xvs, xkv, xvv, hxj, rfl, hxk, hxv⟩ := hv1.open; obtain ⟨xkA, xkc, rfl, -, -⟩ := hxk; obtain ⟨xvA, xvc, xu, rfl, -, -, -⟩ := hxv)
           have HV2 := Lib.hid hv1.low
           have Hb1 := Lib.hid (hk5.blk Hb1.out id)
           have HV := Lib.hid (HV.out.after hk5)
           have HK := Lib.hid (HK.out.trans hk5 (fun _ _ h => h))
           clear hk5 hv1 hxj s0 s1 s2 s3 s4 s5
           generalize xks.length = xkl at *
           generalize xvs.length = xvl at *
           (try simp only [PU]))
        | ((with_reducible refine at_dst (N := 5) rfl ?_); go_must (refine ev_alloc rfl rfl zero25 rfl ?_; intro g5 w6 hg hl hb6 hk)
           have Hb5 := Lib.hid hb6
           have Hg5 := Lib.hid (show w.heap.size ≤ g5 ∧ g1 < g5 from ⟨Nat.le_trans HK.out.size hg, Nat.lt_of_lt_of_le (blk_lt Hb1.out) hg⟩)
           have HV2 := Lib.hid (HV2.out.keep (X' := fun b => b < g5) hk (fun _ _ _ => id) (fun b hb hx => Nat.lt_of_lt_of_le hx hg))
           have Hb1 := Lib.hid (hk.blk Hb1.out id)
           have HV := Lib.hid (HV.out.after hk)
           have HK := Lib.hid (HK.out.trans hk (fun _ _ h => h))
           clear hb6 hk hg hl
           (try simp only [PU]))
        | ((with_reducible refine at_store (t := 25) (p := 5) rfl ?_); go_must (refine ev_store (cs' := #[.int .i64 xk, .bool xb, .int .i64 xn, .string xt, .slice xkA xkl xkc, .slice xvA xvl xvc]) rfl rfl rfl rfl rfl rfl HI.out.1 HI.out.2 rfl Hb5.out (Nat.le_of_ble_eq_true rfl) rfl ?_; intro w7 hb7 hk)
           have Hb5 := Lib.hid hb7
           have HV2 := Lib.hid (HV2.out.keep (X' := fun b => b < g5) hk (fun b _ hb e => by omega) (fun _ _ h => h))
           have HV := Lib.hid (HV.out.keep (X' := fun b => b < w.heap.size) hk (fun b _ hb e => by have := Hg5.out; omega) (fun _ _ h => h))
           have Hb1 := Lib.hid (hk.blk Hb1.out (fun e : g1 = g5 => by have := Hg5.out; omega))
           have HK := Lib.hid (show Keeps Nob w w7 from HK.out.trans hk (fun i hi e => by have := Hg5.out; omega))
           clear hb7 hk
           (try simp only [PU]))
      )
      have s0 := (blk_cell Hb1.out 0).trans rfl
      have s1 := (blk_cell Hb1.out 1).trans rfl
      have s2 := (blk_cell Hb1.out 2).trans rfl
      have s3 := (blk_cell Hb1.out 3).trans rfl
      have s4 := (blk_cell Hb1.out 4).trans rfl
      have s5 := (blk_cell Hb1.out 5).trans rfl
      have r0 := (blk_cell Hb5.out 0).trans rfl
      have r1 := (blk_cell Hb5.out 1).trans rfl
      have r2 := (blk_cell Hb5.out 2).trans rfl
      have r3 := (blk_cell Hb5.out 3).trans rfl
      have r4 := (blk_cell Hb5.out 4).trans rfl
      have r5 := (blk_cell Hb5.out 5).trans rfl
      go_wp2_with (first
        | (go_at_call 23; go_must (refine (same23 HV.out _ _ HV2.out _ (Keeps.refl Nob _) HJ.out.2 HJ.out.2).mono ?_; rintro e w8 ⟨rfl, hk8⟩; rw [Hsame.out]); have HK := Lib.hid (HK.out.trans hk8 (fun _ _ h => h)); clear hk8; (try simp only [PU]))
        | (go_at_call 13; go_must (refine (alive13 (Tab.after HT.out HK.out)).mono ?_; rintro e w9 ⟨rfl, hk9⟩); have HKz := Lib.hid (HK.out.trans hk9 (fun _ _ h => h)); clear hk9; (try simp only [PU]))
      )
      go_ret
      exact ⟨rfl, HKz.out⟩
    · have h15 : ∀ W X v, JX W X v j → Tab W W.heap.size → Calls Tryd.prog 15 #[v] W fun e w' => e = .returned (.tuple #[.string (mkB (writeJ j).1), .int .i64 (checkJ j)]) ∧ Keeps Nob W w' := fun W X v h ht => by
        have := write15 h ht HJ.out.1
        rw [← writeJ_check]
        exact this
      generalize mkB (writeJ j).1 = S at *
      obtain ⟨ck, hck⟩ : ∃ c, checkJ j = c := ⟨_, rfl⟩
      rw [hck] at h15 hc
      have hcb : (ck == 0) = false := beq_eq_false_iff_ne.2 hc
      have H15 := Lib.hid h15
      clear hsm h15 hjj hb hck
      go_enter Tryd.func6, Tryd.ntmps6
      go_wp2_with (first
        | ((with_reducible refine at_dst (N := 1) rfl ?_); go_must (refine ev_box (cs := #[.int .i64 jk, .bool jb, .int .i64 jn, .string jt, .slice kA kl kc, .slice vA vl vc]) rfl rfl rfl ?_; intro g1 w1 hg1 hl1 hb1 hk1)
           have Hb1 := Lib.hid hb1
           have HV := Lib.hid (HV.out.after hk1)
           have HK := Lib.hid hk1
           have s0 := (blk_cell Hb1.out 0).trans rfl
           have s1 := (blk_cell Hb1.out 1).trans rfl
           have s2 := (blk_cell Hb1.out 2).trans rfl
           have s3 := (blk_cell Hb1.out 3).trans rfl
           have s4 := (blk_cell Hb1.out 4).trans rfl
           have s5 := (blk_cell Hb1.out 5).trans rfl
           clear hb1 hk1 hg1 hl1
           (try simp only [PU]))
        | ((with_reducible refine at_dst (N := 9) rfl ?_); go_must (refine ev_slice (cs := #[.int .i64 jk, .bool jb, .int .i64 jn, .string jt, .slice kA kl kc, .slice vA vl vc]) (t := 25) (n := 1) (c := 1) rfl (by first | (go_simp; done) | (go_simp; rfl)) ?_; intro g9 w2 hg2 hl2 hb2 hk2)
           have Hb9 := Lib.hid hb2
           have Hb1 := Lib.hid (hk2.blk Hb1.out id)
           have HV := Lib.hid (HV.out.after hk2)
           have HK := Lib.hid (HK.out.trans hk2 (fun _ _ h => h))
           clear hb2 hk2 hg2 hl2 s0 s1 s2 s3 s4 s5
           have s0 := (blk_cell Hb1.out 0).trans rfl
           have s1 := (blk_cell Hb1.out 1).trans rfl
           have s2 := (blk_cell Hb1.out 2).trans rfl
           have s3 := (blk_cell Hb1.out 3).trans rfl
           have s4 := (blk_cell Hb1.out 4).trans rfl
           have s5 := (blk_cell Hb1.out 5).trans rfl
           (try simp only [PU]))
        | (go_at_call 12; go_must (refine (H12.out _ _ Hb9.out HV.out).mono ?_; rintro e w3 ⟨rfl, hk3⟩; rw [Hsm.out])
           have Hb1 := Lib.hid (hk3.blk Hb1.out id)
           have HV := Lib.hid (HV.out.after hk3)
           have HK := Lib.hid (HK.out.trans hk3 (fun _ _ h => h))
           clear hk3 s0 s1 s2 s3 s4 s5
           have s0 := (blk_cell Hb1.out 0).trans rfl
           have s1 := (blk_cell Hb1.out 1).trans rfl
           have s2 := (blk_cell Hb1.out 2).trans rfl
           have s3 := (blk_cell Hb1.out 3).trans rfl
           have s4 := (blk_cell Hb1.out 4).trans rfl
           have s5 := (blk_cell Hb1.out 5).trans rfl
           (try simp only [PU]))
        | (go_at_call 15; go_must (refine (H15.out _ _ _ HV.out (Tab.after HT.out HK.out)).mono ?_; rintro e w4 ⟨rfl, hk4⟩)
           have Hb1 := Lib.hid (hk4.blk Hb1.out id)
           have HV := Lib.hid (HV.out.after hk4)
           have HK := Lib.hid (HK.out.trans hk4 (fun _ _ h => h))
           clear hk4 s0 s1 s2 s3 s4 s5
           have s0 := (blk_cell Hb1.out 0).trans rfl
           have s1 := (blk_cell Hb1.out 1).trans rfl
           have s2 := (blk_cell Hb1.out 2).trans rfl
           have s3 := (blk_cell Hb1.out 3).trans rfl
           have s4 := (blk_cell Hb1.out 4).trans rfl
           have s5 := (blk_cell Hb1.out 5).trans rfl
           (try simp only [PU]))
        | (go_at_call 13; go_must (refine (alive13 (Tab.after HT.out HK.out)).mono ?_; rintro e w9 ⟨rfl, hk9⟩); have HKz := Lib.hid (HK.out.trans hk9 (fun _ _ h => h)); clear hk9; (try simp only [PU]))
      )
      go_ret
      exact ⟨rfl, HKz.out⟩
  · have Hsm := Lib.hid (decide_eq_false hsm)
    have H15 := Lib.hid True.intro
    clear hsm hjj hb
    go_enter Tryd.func6, Tryd.ntmps6
    go_wp2_with (first
      | ((with_reducible refine at_dst (N := 1) rfl ?_); go_must (refine ev_box (cs := #[.int .i64 jk, .bool jb, .int .i64 jn, .string jt, .slice kA kl kc, .slice vA vl vc]) rfl rfl rfl ?_; intro g1 w1 hg1 hl1 hb1 hk1)
         have Hb1 := Lib.hid hb1
         have HV := Lib.hid (HV.out.after hk1)
         have HK := Lib.hid hk1
         have s0 := (blk_cell Hb1.out 0).trans rfl
         have s1 := (blk_cell Hb1.out 1).trans rfl
         have s2 := (blk_cell Hb1.out 2).trans rfl
         have s3 := (blk_cell Hb1.out 3).trans rfl
         have s4 := (blk_cell Hb1.out 4).trans rfl
         have s5 := (blk_cell Hb1.out 5).trans rfl
         clear hb1 hk1 hg1 hl1
         (try simp only [PU]))
      | ((with_reducible refine at_dst (N := 9) rfl ?_); go_must (refine ev_slice (cs := #[.int .i64 jk, .bool jb, .int .i64 jn, .string jt, .slice kA kl kc, .slice vA vl vc]) (t := 25) (n := 1) (c := 1) rfl (by first | (go_simp; done) | (go_simp; rfl)) ?_; intro g9 w2 hg2 hl2 hb2 hk2)
         have Hb9 := Lib.hid hb2
         have Hb1 := Lib.hid (hk2.blk Hb1.out id)
         have HV := Lib.hid (HV.out.after hk2)
         have HK := Lib.hid (HK.out.trans hk2 (fun _ _ h => h))
         clear hb2 hk2 hg2 hl2 s0 s1 s2 s3 s4 s5
         have s0 := (blk_cell Hb1.out 0).trans rfl
         have s1 := (blk_cell Hb1.out 1).trans rfl
         have s2 := (blk_cell Hb1.out 2).trans rfl
         have s3 := (blk_cell Hb1.out 3).trans rfl
         have s4 := (blk_cell Hb1.out 4).trans rfl
         have s5 := (blk_cell Hb1.out 5).trans rfl
         (try simp only [PU]))
      | (go_at_call 12; go_must (refine (H12.out _ _ Hb9.out HV.out).mono ?_; rintro e w3 ⟨rfl, hk3⟩; rw [Hsm.out])
         have Hb1 := Lib.hid (hk3.blk Hb1.out id)
         have HV := Lib.hid (HV.out.after hk3)
         have HK := Lib.hid (HK.out.trans hk3 (fun _ _ h => h))
         clear hk3 s0 s1 s2 s3 s4 s5
         have s0 := (blk_cell Hb1.out 0).trans rfl
         have s1 := (blk_cell Hb1.out 1).trans rfl
         have s2 := (blk_cell Hb1.out 2).trans rfl
         have s3 := (blk_cell Hb1.out 3).trans rfl
         have s4 := (blk_cell Hb1.out 4).trans rfl
         have s5 := (blk_cell Hb1.out 5).trans rfl
         (try simp only [PU]))
      | (go_at_call 15; go_must (refine (H15.out _ _ _ HV.out (Tab.after HT.out HK.out)).mono ?_; rintro e w4 ⟨rfl, hk4⟩)
         have Hb1 := Lib.hid (hk4.blk Hb1.out id)
         have HV := Lib.hid (HV.out.after hk4)
         have HK := Lib.hid (HK.out.trans hk4 (fun _ _ h => h))
         clear hk4 s0 s1 s2 s3 s4 s5
         have s0 := (blk_cell Hb1.out 0).trans rfl
         have s1 := (blk_cell Hb1.out 1).trans rfl
         have s2 := (blk_cell Hb1.out 2).trans rfl
         have s3 := (blk_cell Hb1.out 3).trans rfl
         have s4 := (blk_cell Hb1.out 4).trans rfl
         have s5 := (blk_cell Hb1.out 5).trans rfl
         (try simp only [PU]))
      | (go_at_call 13; go_must (refine (alive13 (Tab.after HT.out HK.out)).mono ?_; rintro e w9 ⟨rfl, hk9⟩); have HKz := Lib.hid (HK.out.trans hk9 (fun _ _ h => h)); clear hk9; (try simp only [PU]))
    )
    go_ret
    exact ⟨rfl, HKz.out⟩
end Go.Proofs.WV

/-
  How the statements' values lie in memory, out of their readings; how large they are. No condition.
-/
namespace Go.Proofs.WV
open Go.RowKit Go.Proofs.KL Go.Proofs.WM Go.ChangeShapes Go.Proofs.YtcmmnbipaemgiaaDoor
set_option maxRecDepth 100000
set_option linter.unusedVariables false

theorem spot_none {w : World} {a : Addr} {v : Value} (h : w.cell? a = some v) : ∃ b o, a = ⟨b, o, none⟩ := by
  obtain ⟨b, o, s⟩ := a
  cases s with
  | none => exact ⟨b, o, rfl⟩
  | some x => unfold World.cell? at h; simp only [Option.isSome_some, if_true] at h; split at h <;> cases h
theorem add_at (b o i : Nat) : (⟨b, o, none⟩ : Addr).add i = ⟨b, o + i, none⟩ := by
  unfold Addr.add
  split
  · rename_i h; subst h; rfl
  · rfl
theorem one_of {l : List Value} {i : Nat} {v : Value} (h : l[i]? = some v) : (l.drop i).take 1 = [v] := by
  obtain ⟨hi, hv⟩ := List.getElem?_eq_some_iff.1 h
  rw [List.drop_eq_getElem_cons hi, hv]; rfl
theorem list_of {α : Type} [Inhabited α] {n : Nat} {p : Nat → α → Prop} (h : ∀ i, i < n → ∃ a, p i a) : ∃ l : List α, l.length = n ∧ ∀ i, i < n → p i (l.getD i default) := by
  induction n with
  | zero => exact ⟨[], rfl, fun i hi => absurd hi (by omega)⟩
  | succ n ih =>
    obtain ⟨l, hl, hp⟩ := ih (fun i hi => h i (by omega))
    obtain ⟨a, ha⟩ := h n (by omega)
    refine ⟨l ++ [a], by simp [hl], fun i hi => ?_⟩
    rw [List.getD_eq_getElem?_getD, List.getElem?_append]
    by_cases e : i < n
    · rw [if_pos (by omega), ← List.getD_eq_getElem?_getD]; exact hp i e
    · obtain rfl : i = n := by omega
      rw [if_neg (by omega), hl]; simpa using ha
theorem cells9 : Tryd.prog.cellsOf 9 = 1 := by kernel_rfl
theorem cells3 : Tryd.prog.cellsOf 3 = 1 := by kernel_rfl
theorem cells4 : Tryd.prog.cellsOf 4 = 1 := by kernel_rfl
theorem cells2 : Tryd.prog.cellsOf 2 = 1 := by kernel_rfl
theorem cells22 : Tryd.prog.cellsOf 22 = 1 := by kernel_rfl
theorem cells23 : Tryd.prog.cellsOf 23 = 1 := by kernel_rfl
theorem cells25 : Tryd.prog.cellsOf 25 = 6 := by kernel_rfl
theorem bulk_one {H : Type} (d : DataW H) : 1 ≤ Rows.uptoBulk d := by
  cases d with
  | lit l => cases l <;> simp [Rows.uptoBulk]
  | nil => simp [Rows.uptoBulk]
  | ptr d => simp [Rows.uptoBulk]
  | slice elems spare => simp [Rows.uptoBulk]
  | agg parts => simp [Rows.uptoBulk]
  | iface t d => simp [Rows.uptoBulk]
  | map entries => simp [Rows.uptoBulk]
  | held h => simp [Rows.uptoBulk]
theorem bulk_string {H : Type} (s : ByteArray) : Rows.uptoBulk (DataW.lit (H := H) (.string s.data.toList)) = s.size + 1 := by simp [Rows.uptoBulk]
section
variable {H : Type} {enc : TypeId × Value → H} {W : World} {base : Nat} {sp : Nat → Bool} {held : Bool}
/-- A sum over a list of the elements' measures, each bounded by its datum's bulk. -/
theorem bulk_sum {H : Type} {α : Type} (f : α → Nat) : ∀ (l : List α) (es : List (DataW H × List MemPlace)), l.length = es.length → (∀ i, i < l.length → ∀ a x, l[i]? = some a → es[i]? = some x → f a ≤ Rows.uptoBulk x.1) → (l.map f).sum ≤ Rows.uptoBulkAll (es.map (·.1))
  | [], [], _, _ => by simp [Rows.uptoBulkAll]
  | a :: l, x :: es, hl, h => by
    have h0 := h 0 (by simp) a x rfl rfl
    have h1 := bulk_sum f l es (by simpa using hl) (fun i hi a' x' ha hx => h (i + 1) (by simpa using hi) a' x' (by simpa using ha) (by simpa using hx))
    simp only [List.map_cons, List.sum_cons, Rows.uptoBulkAll]
    omega
  | [], _ :: _, hl, _ => by simp at hl
  | _ :: _, [], hl, _ => by simp at hl
theorem strs_of {fuel : Nat} {v : Value} {x : DataW H × List MemPlace} (h : DataW.trod enc Tryd.prog W base sp held fuel 22 [v] = some x) : ∃ ks, StrsX W (fun _ => True) v ks ∧ ks.length + (ks.map ByteArray.size).sum + 1 ≤ Rows.uptoBulk x.1 := by
  rcases DataW.trod_slice Tryd.underlying22 h with ⟨hc, hx⟩ | ⟨a, len, cap, elems, rest, n, _, hc, hx, _, hl, _, hel, hget, _, _⟩
  · injection hc with hc _
    subst hc
    exact ⟨[], strs_nil _ _, by simpa using bulk_one x.1⟩
  · injection hc with hc _
    subst hc
    have key : ∀ i, i < len → ∃ s : ByteArray, (∃ y, elems[i]? = some y ∧ y.1 = .lit (.string s.data.toList)) ∧ ∃ b o, a = ⟨b, o, none⟩ ∧ W.cell? ⟨b, o + i, none⟩ = some (.string s) := by
      intro i hi
      have hg := hget i hi
      rw [List.getElem?_eq_getElem (by omega), cells9, Nat.mul_one] at hg
      obtain ⟨cs, hcs, hst⟩ := Option.bind_eq_some_iff.1 hg
      obtain ⟨_, hlen, hcell⟩ := World.cells?_some hcs
      obtain ⟨s, rfl, hy, _⟩ := DataW.trod_string Tryd.underlying9 hst
      have e0 := hcell 0 (by omega)
      have hadd : (a.add i).add 0 = a.add i := by simp [Addr.add]
      rw [hadd] at e0
      have hsp : ∃ b o, a = ⟨b, o, none⟩ := by
        have hg0 := hget 0 (by omega)
        rw [List.getElem?_eq_getElem (by omega), cells9, Nat.mul_one] at hg0
        obtain ⟨cs0, hcs0, _⟩ := Option.bind_eq_some_iff.1 hg0
        obtain ⟨_, hlen0, hcell0⟩ := World.cells?_some hcs0
        have := hcell0 0 (by omega)
        rw [List.getElem?_eq_getElem (by omega), show (a.add 0).add 0 = a by simp [Addr.add]] at this
        exact spot_none this
      obtain ⟨b, o, rfl⟩ := hsp
      rw [add_at] at e0
      exact ⟨s, ⟨_, List.getElem?_eq_getElem (by omega), by rw [hy]⟩, b, o, rfl, e0⟩
    obtain ⟨ks, hkl, hp⟩ := list_of (α := ByteArray) key
    refine ⟨ks, ⟨some a, cap, by rw [hkl], by omega, fun i hi => ?_⟩, ?_⟩
    · obtain ⟨_, b, o, rfl, hc⟩ := hp i (by omega)
      exact ⟨b, o, rfl, trivial, hc⟩
    · have hs := bulk_sum (fun s : ByteArray => s.size + 1) ks elems (by omega) (fun i hi s y hs hy => by
        obtain ⟨⟨y', hy', hd⟩, _⟩ := hp i (by omega)
        rw [hy] at hy'
        injection hy' with hy'
        subst hy'
        have e : ks.getD i default = s := by rw [List.getD_eq_getElem?_getD, hs]; rfl
        rw [hd, e, bulk_string]
        exact Nat.le_refl _)
      have e2 : (ks.map fun s : ByteArray => s.size + 1).sum = (ks.map ByteArray.size).sum + ks.length := by
        clear hp hkl hs
        induction ks with
        | nil => rfl
        | cons k ks ih => simp only [List.map_cons, List.sum_cons, List.length_cons, ih]; omega
      rw [hx]
      simp only [Rows.uptoBulk]
      omega
theorem sizeL_sum : ∀ vs : List J, sizeL vs = (vs.map sizeJ).sum
  | [] => rfl
  | v :: vs => by unfold sizeL; rw [sizeL_sum vs]; rfl
/-- A value, out of its reading. -/
theorem json_of : ∀ (fuel : Nat) {cs : List Value} {x : DataW H × List MemPlace}, DataW.trod enc Tryd.prog W base sp held fuel 25 cs = some x → ∃ (v0 v1 v2 v3 v4 v5 : Value) (j : J), cs = [v0, v1, v2, v3, v4, v5] ∧ JX W (fun _ => True) (.agg #[v0, v1, v2, v3, v4, v5]) j ∧ sizeJ j ≤ Rows.uptoBulk x.1 := by
  intro fuel
  induction fuel using Nat.strongRecOn with
  | _ fuel ih =>
    intro cs x h
    obtain ⟨xs, n, hfu, hx, hcl, hxl, hf⟩ := DataW.trod_struct Tryd.underlying25 h
    rw [cells25] at hcl
    have f0 : DataW.trod enc Tryd.prog W base sp held n 3 ((cs.drop 0).take (Tryd.prog.cellsOf 3)) = xs[0]? := hf 0 _ rfl
    have f1 : DataW.trod enc Tryd.prog W base sp held n 4 ((cs.drop 1).take (Tryd.prog.cellsOf 4)) = xs[1]? := hf 1 _ rfl
    have f2 : DataW.trod enc Tryd.prog W base sp held n 2 ((cs.drop 2).take (Tryd.prog.cellsOf 2)) = xs[2]? := hf 2 _ rfl
    have f3 : DataW.trod enc Tryd.prog W base sp held n 9 ((cs.drop 3).take (Tryd.prog.cellsOf 9)) = xs[3]? := hf 3 _ rfl
    have f4 : DataW.trod enc Tryd.prog W base sp held n 22 ((cs.drop 4).take (Tryd.prog.cellsOf 22)) = xs[4]? := hf 4 _ rfl
    have f5 : DataW.trod enc Tryd.prog W base sp held n 23 ((cs.drop 5).take (Tryd.prog.cellsOf 23)) = xs[5]? := hf 5 _ rfl
    have hxs : xs.length = 6 := hxl
    obtain ⟨v0, v1, v2, v3, v4, v5, rfl⟩ : ∃ v0 v1 v2 v3 v4 v5, cs = [v0, v1, v2, v3, v4, v5] := by
      match cs, hcl with
      | [v0, v1, v2, v3, v4, v5], _ => exact ⟨v0, v1, v2, v3, v4, v5, rfl⟩
    obtain ⟨x0, x1, x2, x3, x4, x5, rfl⟩ : ∃ x0 x1 x2 x3 x4 x5, xs = [x0, x1, x2, x3, x4, x5] := by
      match xs, hxs with
      | [x0, x1, x2, x3, x4, x5], _ => exact ⟨x0, x1, x2, x3, x4, x5, rfl⟩
    rw [cells3] at f0
    rw [cells4] at f1
    rw [cells2] at f2
    rw [cells9] at f3
    rw [cells22] at f4
    rw [cells23] at f5
    obtain ⟨k, hk, hx0, _⟩ := DataW.trod_int Tryd.underlying3 (show DataW.trod enc Tryd.prog W base sp held n 3 [v0] = some x0 from f0)
    obtain ⟨b, hb, hx1⟩ := DataW.trod_bool Tryd.underlying4 (show DataW.trod enc Tryd.prog W base sp held n 4 [v1] = some x1 from f1)
    obtain ⟨m, hm, hx2, _⟩ := DataW.trod_int Tryd.underlying2 (show DataW.trod enc Tryd.prog W base sp held n 2 [v2] = some x2 from f2)
    obtain ⟨t, ht, hx3, _⟩ := DataW.trod_string Tryd.underlying9 (show DataW.trod enc Tryd.prog W base sp held n 9 [v3] = some x3 from f3)
    obtain ⟨ks, hks, hkb⟩ := strs_of (show DataW.trod enc Tryd.prog W base sp held n 22 [v4] = some x4 from f4)
    injection hk with hk _
    injection hb with hb _
    injection hm with hm _
    injection ht with ht _
    subst hk hb hm ht
    have hvs : ∃ vs, JsX W (fun _ => True) v5 vs ∧ sizeL vs + 1 ≤ Rows.uptoBulk x5.1 := by
      rcases DataW.trod_slice Tryd.underlying23 (show DataW.trod enc Tryd.prog W base sp held n 23 [v5] = some x5 from f5) with ⟨hc, hx⟩ | ⟨a, len, cap, elems, rest, n', hn', hc, hx5, _, hl, _, hel, hget, _, _⟩
      · injection hc with hc _
        subst hc
        exact ⟨[], ⟨none, 0, fun _ _ => .nilIface, rfl, Nat.le_refl _, fun i hi => absurd hi (Nat.not_lt_zero _), fun i hi => absurd hi (Nat.not_lt_zero _)⟩, by simpa [sizeL] using bulk_one x5.1⟩
      · injection hc with hc _
        subst hc
        have hsp : 0 < len → ∃ b o, a = ⟨b, o, none⟩ := by
          intro h0
          have hg0 := hget 0 h0
          rw [List.getElem?_eq_getElem (by omega), cells25] at hg0
          obtain ⟨cs0, hcs0, _⟩ := Option.bind_eq_some_iff.1 hg0
          obtain ⟨_, hlen0, hcell0⟩ := World.cells?_some hcs0
          have := hcell0 0 (by omega)
          rw [List.getElem?_eq_getElem (by omega), show (0 * 6 : Nat) = 0 from rfl, show (a.add 0).add 0 = a by simp [Addr.add]] at this
          exact spot_none this
        have key : ∀ i, i < len → ∃ j : J, ∃ u : Nat → Value, (∃ y, elems[i]? = some y ∧ sizeJ j ≤ Rows.uptoBulk y.1) ∧ JX W (fun _ => True) (.agg #[u 0, u 1, u 2, u 3, u 4, u 5]) j ∧ ∃ b o, a = ⟨b, o, none⟩ ∧ Six W b (o + i * 6) (u 0) (u 1) (u 2) (u 3) (u 4) (u 5) := by
          intro i hi
          have hg := hget i hi
          rw [List.getElem?_eq_getElem (by omega), cells25] at hg
          obtain ⟨cs, hcs, hst⟩ := Option.bind_eq_some_iff.1 hg
          obtain ⟨_, hlen, hcell⟩ := World.cells?_some hcs
          obtain ⟨w0, w1, w2, w3, w4, w5, j, rfl, hj, hjb⟩ := ih n' (by omega) hst
          obtain ⟨b, o, rfl⟩ := hsp (by omega)
          have e0 := hcell 0 (by decide)
          have e1 := hcell 1 (by decide)
          have e2 := hcell 2 (by decide)
          have e3 := hcell 3 (by decide)
          have e4 := hcell 4 (by decide)
          have e5 := hcell 5 (by decide)
          simp only [add_at] at e0 e1 e2 e3 e4 e5
          exact ⟨j, fun i => [w0, w1, w2, w3, w4, w5].getD i .nilIface, ⟨_, List.getElem?_eq_getElem (by omega), hjb⟩, hj, b, o, rfl, ⟨⟨e0, e1, e2⟩, e3, e4, e5⟩⟩
        obtain ⟨vs, hvl, hp⟩ := list_of (α := J) key
        have hchoose : ∀ i : Nat, ∃ u : Nat → Value, i < len → (JX W (fun _ => True) (.agg #[u 0, u 1, u 2, u 3, u 4, u 5]) (vs.getD i default) ∧ ∃ b o, a = ⟨b, o, none⟩ ∧ Six W b (o + i * 6) (u 0) (u 1) (u 2) (u 3) (u 4) (u 5)) := fun i => by
          by_cases hi : i < len
          · obtain ⟨u, _, h1, h2⟩ := hp i hi
            exact ⟨u, fun _ => ⟨h1, h2⟩⟩
          · exact ⟨fun _ => .nilIface, fun h => absurd h hi⟩
        refine ⟨vs, ⟨some a, cap, fun i => (hchoose i).choose, by rw [hvl], by omega, fun i hi => ?_, fun i hi => ((hchoose i).choose_spec (by omega)).1⟩, ?_⟩
        · obtain ⟨b, o, rfl, h6⟩ := ((hchoose i).choose_spec (by omega)).2
          exact ⟨b, o, rfl, trivial, h6⟩
        · have hs := bulk_sum sizeJ vs elems (by omega) (fun i hi j y hj hy => by
            obtain ⟨u, ⟨y', hy', hb⟩, _⟩ := hp i (by omega)
            rw [hy] at hy'
            injection hy' with hy'
            subst hy'
            have e : vs.getD i default = j := by rw [List.getD_eq_getElem?_getD, hj]; rfl
            rw [← e]
            exact hb)
          rw [sizeL_sum, hx5]
          simp only [Rows.uptoBulk]
          omega
    obtain ⟨vs, hvs, hvb⟩ := hvs
    refine ⟨_, _, _, _, _, _, .mk k b m t ks vs, rfl, JX.close hks hvs, ?_⟩
    have h3 : Rows.uptoBulk x3.1 = t.size + 1 := by rw [hx3]; exact bulk_string t
    have h0 := bulk_one x0.1
    have h1 := bulk_one x1.1
    have h2 := bulk_one x2.1
    rw [hx]
    unfold sizeJ
    simp only [Rows.uptoBulk, List.map_cons, List.map_nil, Rows.uptoBulkAll]
    omega
end
end Go.Proofs.WV
