/-
  One asking, as it lies in memory; what a nested asking must come to; and that whatever looks at what a kept result asked (stale) comes to the model's 'staleF'. Condition: nested askings come to the model's.
-/
import Derived.Test.YtohpkolkagddiaaDoorQ3
import Derived.Test.YtohpkolkagddiaaDoorK4
namespace Go.Proofs.QW
open Go.RowKit Go.Proofs.KL Go.Proofs.QM
set_option maxRecDepth 100000
set_option linter.unusedSimpArgs false
set_option linter.unusedVariables false

/-- The blocks that an asking may write. -/
def MSet (ab ob mb : Nat) (wv : Value) : Nat → Prop := fun k => k = ab ∨ k = ob ∨ k = mb ∨ some k = wv.ownBlock
/-- An asking as it lies, but for what is open. -/
structure AskC (w : World) (X : Nat → Prop) (ab eb ib mb ob : Nat) (E : Env) (s : PS) (wv : Value) : Prop where
  ablk : w.heap[ab]? = some (.cells #[.pointer (some ⟨eb, 0, none⟩), .map (some ob), wv, .int .i64 E.most] 89 (0, 0))
  eng : EngAt w X eb ib mb E s.ans
  oblk : ∃ es c, w.heap[ob]? = some (.map es c)
  own : w.ownsRow 0 3 1 wv s.done.length (s.done.map (Value.int .i64))
  xa : ¬ X ab
  xo : ¬ X ob
  xw : ∀ b, wv.ownBlock = some b → ¬ X b
  mo : mb ≠ ob
  xl : ∀ k, X k → k < w.heap.size
theorem own_lt {w : World} {base e size n : Nat} {v : Value} {xs : List Value} (h : w.ownsRow base e size v n xs) : ∀ b, v.ownBlock = some b → b < w.heap.size ∧ ∃ cs, w.heap[b]? = some (.cells cs e (0, 0)) := by
  intro b hb
  rcases h.2 with ⟨rfl, _⟩ | ⟨g, cap, cur, rfl, _, hh, _⟩
  · cases hb
  · simp [Value.ownBlock] at hb; subst hb; exact ⟨blk_lt hh, cur, hh⟩
theorem AskC.lt {w : World} {X : Nat → Prop} {ab eb ib mb ob : Nat} {E : Env} {s : PS} {wv : Value} (h : AskC w X ab eb ib mb ob E s wv) : ∀ k, MSet ab ob mb wv k → k < w.heap.size := by
  intro k hk
  rcases hk with rfl | rfl | rfl | hk
  · exact blk_lt h.ablk
  · obtain ⟨es, c, ho⟩ := h.oblk; exact blk_lt ho
  · obtain ⟨es, c, hm, _⟩ := h.eng.ans; exact blk_lt hm
  · exact (own_lt h.own k hk.symm).1
theorem AskC.notX {w : World} {X : Nat → Prop} {ab eb ib mb ob : Nat} {E : Env} {s : PS} {wv : Value} (h : AskC w X ab eb ib mb ob E s wv) : ∀ k, MSet ab ob mb wv k → ¬ X k := by
  intro k hk
  rcases hk with rfl | rfl | rfl | hk
  · exact h.xa
  · exact h.xo
  · exact h.eng.xm
  · exact h.xw k hk.symm
theorem ownsRow_keep {M : Nat → Prop} {w w' : World} {base e size n : Nat} {v : Value} {xs : List Value} (h : w.ownsRow base e size v n xs) (hk : Keeps M w w') (hn : ∀ b, v.ownBlock = some b → ¬ M b) : w'.ownsRow base e size v n xs := by
  refine ⟨h.1, ?_⟩
  rcases h.2 with h2 | ⟨g, cap, cur, hv, hg, hh, r⟩
  · exact .inl h2
  · exact .inr ⟨g, cap, cur, hv, hg, hk.blk hh (hn g (by rw [hv]; rfl)), r⟩
theorem EngAt.keep {M X X' : Nat → Prop} {w w' : World} {eb ib mb : Nat} {E : Env} {ans : List (Option KeptR)} (h : EngAt w X eb ib mb E ans) (hk : Keeps M w w') (he : ¬ M eb) (hi : ¬ M ib) (hm : ¬ M mb)
    (hX : ∀ b, b < w.heap.size → X b → ¬ M b) (hX' : ∀ b, b < w.heap.size → (X' b ↔ X b)) : EngAt w' X' eb ib mb E ans := by
  obtain ⟨⟨rv, c, hb, hr⟩, hinp, hans, xe, xi, xm⟩ := h
  obtain ⟨cs, hib, _⟩ := id hinp
  obtain ⟨es, cl, hmb, _⟩ := id hans
  exact ⟨⟨rv, c, hk.blk hb he, hr.keep hk hX (fun b hb h => (hX' b hb).2 h)⟩, hinp.keep hk hi, hans.keep hk hm hX (fun b hb h => (hX' b hb).2 h), fun h => xe ((hX' eb (blk_lt hb)).1 h), fun h => xi ((hX' ib (blk_lt hib)).1 h), fun h => xm ((hX' mb (blk_lt hmb)).1 h)⟩
/-- Blocks that are none of the asking's are written. -/
theorem AskC.keep {M : Nat → Prop} {w w' : World} {X : Nat → Prop} {ab eb ib mb ob : Nat} {E : Env} {s : PS} {wv : Value} (h : AskC w X ab eb ib mb ob E s wv) (hk : Keeps M w w') (hM : ∀ k, k < w.heap.size → M k → False) : AskC w' X ab eb ib mb ob E s wv := by
  obtain ⟨⟨rv, c, hb, _⟩, ⟨cs, hib, _⟩, ⟨es, cl, hmb, _⟩, _, _, _⟩ := id h.eng
  obtain ⟨eo, co, ho⟩ := h.oblk
  exact ⟨hk.blk h.ablk (fun hm => hM _ (blk_lt h.ablk) hm), h.eng.keep hk (fun hm => hM _ (blk_lt hb) hm) (fun hm => hM _ (blk_lt hib) hm) (fun hm => hM _ (blk_lt hmb) hm) (fun b hb _ hm => hM b hb hm) (fun _ _ => Iff.rfl),
    ⟨eo, co, hk.blk ho (fun hm => hM _ (blk_lt ho) hm)⟩, ownsRow_keep h.own hk (fun b hb hm => hM b (own_lt h.own b hb).1 hm), h.xa, h.xo, h.xw, h.mo, fun k hx => Nat.lt_of_lt_of_le (h.xl k hx) hk.size⟩
/-- What an asking leaves. -/
structure AskPost (w : World) (X : Nat → Prop) (ab eb ib mb ob : Nat) (E : Env) (wv : Value) (s' : PS) (w' : World) (X' : Nat → Prop) (wv' : Value) : Prop where
  xx : ∀ b, b < w.heap.size → (X' b ↔ X b)
  keep : Keeps (MSet ab ob mb wv) w w'
  row : wv'.ownBlock = wv.ownBlock ∨ ∃ b, wv'.ownBlock = some b ∧ w.heap.size ≤ b
  core : AskC w' X' ab eb ib mb ob E s' wv'
theorem AskPost.refl {w : World} {X : Nat → Prop} {ab eb ib mb ob : Nat} {E : Env} {s : PS} {wv : Value} (h : AskC w X ab eb ib mb ob E s wv) : AskPost w X ab eb ib mb ob E wv s w X wv :=
  ⟨fun _ _ => Iff.rfl, Keeps.refl _ _, .inl rfl, h⟩
/-- Other blocks that are new, or that are none of the asking's, are written ahead of what an asking leaves. -/
theorem AskPost.after {M : Nat → Prop} {w w1 w2 : World} {X X2 : Nat → Prop} {ab eb ib mb ob : Nat} {E : Env} {s : PS} {wv wv2 : Value} (hk : Keeps Nob w w1) (h : AskPost w1 X ab eb ib mb ob E wv s w2 X2 wv2) (_hM : M = M) : AskPost w X ab eb ib mb ob E wv s w2 X2 wv2 :=
  ⟨fun b hb => h.xx b (Nat.lt_of_lt_of_le hb hk.size), (hk.mono (fun _ _ h => h.elim)).trans h.keep (fun _ _ h => h), h.row.imp id (fun ⟨b, h1, h2⟩ => ⟨b, h1, Nat.le_trans hk.size h2⟩), h.core⟩
theorem AskPost.trans {w w1 w2 : World} {X X1 X2 : Nat → Prop} {ab eb ib mb ob : Nat} {E : Env} {s1 s2 : PS} {wv wv1 wv2 : Value} (h : AskPost w X ab eb ib mb ob E wv s1 w1 X1 wv1) (k : AskPost w1 X1 ab eb ib mb ob E wv1 s2 w2 X2 wv2) :
    AskPost w X ab eb ib mb ob E wv s2 w2 X2 wv2 := by
  have hs := h.keep.size
  refine ⟨fun b hb => (k.xx b (Nat.lt_of_lt_of_le hb hs)).trans (h.xx b hb), h.keep.trans k.keep (fun i hi hm => ?_), ?_, k.core⟩
  · rcases hm with h1 | h1 | h1 | h1
    · exact .inl h1
    · exact .inr (.inl h1)
    · exact .inr (.inr (.inl h1))
    · rcases h.row with hr | ⟨b, hb, hlt⟩
      · exact .inr (.inr (.inr (h1.trans hr)))
      · rw [hb] at h1; injection h1 with h1; omega
  · rcases k.row with hr | ⟨b, hb, hlt⟩
    · rw [hr]; exact h.row
    · exact .inr ⟨b, hb, by omega⟩
/-- Blocks of one's own are written behind what an asking leaves. -/
theorem AskPost.then {M : Nat → Prop} {w w1 w2 : World} {X X1 : Nat → Prop} {ab eb ib mb ob : Nat} {E : Env} {s1 : PS} {wv wv1 : Value} (h : AskPost w X ab eb ib mb ob E wv s1 w1 X1 wv1) (k : Keeps M w1 w2) (hM : ∀ i, i < w1.heap.size → M i → w.heap.size ≤ i)
    (hc : AskC w2 X1 ab eb ib mb ob E s1 wv1) : AskPost w X ab eb ib mb ob E wv s1 w2 X1 wv1 :=
  ⟨h.xx, h.keep.trans k (fun i hi hm => absurd hi (by have := hM i (Nat.lt_of_lt_of_le hi h.keep.size) hm; omega)), h.row, hc⟩
/-- A block that is none of the asking's stays. -/
theorem AskPost.blk {w w' : World} {X X' : Nat → Prop} {ab eb ib mb ob : Nat} {E : Env} {s' : PS} {wv wv' : Value} (h : AskPost w X ab eb ib mb ob E wv s' w' X' wv') {b : Nat} {o : Obj} (hb : w.heap[b]? = some o) (hn : ¬ MSet ab ob mb wv b) : w'.heap[b]? = some o := h.keep.blk hb hn
theorem AskPost.notM {w w' : World} {X X' : Nat → Prop} {ab eb ib mb ob : Nat} {E : Env} {s' : PS} {wv wv' : Value} (h : AskPost w X ab eb ib mb ob E wv s' w' X' wv') {b : Nat} (hb : b < w.heap.size) (hn : ¬ MSet ab ob mb wv b) : ¬ MSet ab ob mb wv' b := by
  intro hm
  rcases hm with h1 | h1 | h1 | h1
  · exact hn (.inl h1)
  · exact hn (.inr (.inl h1))
  · exact hn (.inr (.inr (.inl h1)))
  · rcases h.row with hr | ⟨c, hc, hlt⟩
    · exact hn (.inr (.inr (.inr (h1.trans hr))))
    · rw [hc] at h1; injection h1 with h1; omega
/-- The ending of a call that may stop by a panic of the package's own. -/
def EndAs {α : Type} (val : α → Value → Prop) : Except Int α → Ending → Prop
  | .ok x, e => ∃ v, val x v ∧ e = .returned v
  | .error c, e => e = .panicked [{ v := .iface 90 (.int .i64 c), recovered := false }]
def KeptV (x : Int × Int) (v : Value) : Prop := ∃ u ck, v = .agg #[.int .i64 x.1, u, .int .i64 ck, .int .i64 x.2] ∧ u.oneCell' = true
/-- What a call that asks comes to: the model's state, and the model's answer. -/
def Asks (w : World) (X : Nat → Prop) (ab eb ib mb ob : Nat) (E : Env) (on : List Int) (wv : Value) {α : Type} (val : α → Value → Prop) (r : PS × Except Int α) (e : Ending) (w' : World) : Prop :=
  ∃ X' wv', AskPost w X ab eb ib mb ob E wv r.1 w' X' wv' ∧ (∀ x, r.2 = .ok x → OpenX w' ob on) ∧ EndAs val r.2 e
/-- THE CONTRACT OF ASK, at the model's function 'ask' while 'on' are open. -/
def AskOK (E : Env) (on : List Int) (ask : AskFn) : Prop :=
  ∀ (w : World) (X : Nat → Prop) (ab eb ib mb ob : Nat) (s : PS) (wv : Value) (q : Int), AskC w X ab eb ib mb ob E s wv → OpenX w ob on → PInv E on s → InQ E q →
    Calls Tryd.prog 40 #[.pointer (some ⟨ab, 0, none⟩), .int .i64 q] w (Asks w X ab eb ib mb ob E on wv KeptV (ask s q))

/-- stale's closure. -/
theorem stale1_any {E : Env} {on : List Int} {ask : AskFn} (IH : AskOK E on ask) (w : World) (X : Nat → Prop) (ab eb ib mb ob ga gk : Nat) (s : PS) (wv : Value) (q ck : Int) (v0 v1 v3 : Value)
    (hc : AskC w X ab eb ib mb ob E s wv) (ho : OpenX w ob on) (hi : PInv E on s) (hq : InQ E q)
    (hga : w.heap[ga]? = some (.cells #[.pointer (some ⟨ab, 0, none⟩)] 86 (0, 0))) (hgk : w.heap[gk]? = some (.cells #[v0, v1, .int .i64 ck, v3] 85 (0, 0))) (na : ¬ MSet ab ob mb wv ga) (nk : ¬ MSet ab ob mb wv gk) :
    Calls Tryd.prog 65 #[.int .i64 q, .pointer (some ⟨ga, 0, none⟩), .pointer (some ⟨gk, 0, none⟩)] w
      (Asks w X ab eb ib mb ob E on wv (fun b v => v = .bool b) (match ask s q with | (s1, .error e) => (s1, .error e) | (s1, .ok (_, ch)) => (s1, .ok (decide (ck < ch))))) := by
  have ea := blk_cell hga 0
  have ek := blk_cell hgk 2
  simp only [List.getElem?_toArray, List.getElem?_cons_zero, List.getElem?_cons_succ] at ea ek
  have H := IH w.drew X ab eb ib mb ob s wv q (hc.keep (Keeps.refl Nob w).drew (fun _ _ h => h)) (ho.keep (Keeps.refl Nob w).drew id) hi hq
  rcases hr : ask s q with ⟨s1, r1⟩
  rw [hr] at H
  have Hga := Lib.hid hga
  have Hgk := Lib.hid hgk
  have HH := Lib.hid H
  have Ho := Lib.hid ho
  have Hc := Lib.hid hc
  have Hi := Lib.hid hi
  clear H hr hga hgk ho hc hi
  cases r1 with
  | error x =>
    go_enter Tryd.func65, Tryd.ntmps65
    go_wp2_with fail
    refine wp_region_perm [(0, true), (1, true), (4, true), (5, true), (2, false), (3, true), (6, true), (7, true)] (fun w' => w'.cell? ⟨ga, 0, none⟩ = some (.pointer (some ⟨ab, 0, none⟩)) ∧ w'.cell? ⟨gk, 2, none⟩ = some (.int .i64 ck)) rfl (by kernel_rfl) (by kernel_rfl) (by decide) (fun c a d v w h => by cases d <;> exact h) ⟨ea, ek⟩ ?_
    refine perm_q (v := ?v1_0) (some 5) rfl rfl rfl ?q1_0 ?h1_0; (case q1_0 => (intro w' hS; obtain ⟨s1, s2⟩ := hS; first | (go_simp; done) | (go_simp; rfl))); (try simp only [Act.put, List.setIfInBounds_toArray, List.set_cons_zero, List.set_cons_succ])
    refine perm_q (v := ?v1_1) (some 6) rfl rfl rfl ?q1_1 ?h1_1; (case q1_1 => (intro w' hS; obtain ⟨s1, s2⟩ := hS; first | (go_simp; done) | (go_simp; rfl))); (try simp only [Act.put, List.setIfInBounds_toArray, List.set_cons_zero, List.set_cons_succ])
    refine perm_q (v := ?v1_4) (some 9) rfl rfl rfl ?q1_4 ?h1_4; (case q1_4 => (intro w' hS; obtain ⟨s1, s2⟩ := hS; first | (go_simp; done) | (go_simp; rfl))); (try simp only [Act.put, List.setIfInBounds_toArray, List.set_cons_zero, List.set_cons_succ])
    refine perm_q (v := ?v1_5) (some 10) rfl rfl rfl ?q1_5 ?h1_5; (case q1_5 => (intro w' hS; obtain ⟨s1, s2⟩ := hS; first | (go_simp; done) | (go_simp; rfl))); (try simp only [Act.put, List.setIfInBounds_toArray, List.set_cons_zero, List.set_cons_succ])
    refine perm_e rfl ?_   -- 2: call F40(t5, t6)
    go_wp2_with (go_at_call 40; go_must (refine HH.out.mono ?_; rintro e w1 ⟨X', wv', hp, _, he⟩; simp only [EndAs] at he; subst he))
    refine ⟨rfl, X', wv', ⟨hp.xx, ?_, hp.row, hp.core⟩, ?_, rfl⟩
    · exact (Keeps.refl _ w).drew.trans hp.keep (fun _ _ h => h)
    · exact fun x h => by cases h
  | ok x =>
    obtain ⟨v, ch⟩ := x
    go_enter Tryd.func65, Tryd.ntmps65
    go_wp2_with fail
    refine wp_region_perm [(0, true), (1, true), (4, true), (5, true), (2, false), (3, true), (6, true), (7, true)] (fun w' => w'.cell? ⟨ga, 0, none⟩ = some (.pointer (some ⟨ab, 0, none⟩)) ∧ w'.cell? ⟨gk, 2, none⟩ = some (.int .i64 ck)) rfl (by kernel_rfl) (by kernel_rfl) (by decide) (fun c a d v w h => by cases d <;> exact h) ⟨ea, ek⟩ ?_
    refine perm_q (v := ?v2_0) (some 5) rfl rfl rfl ?q2_0 ?h2_0; (case q2_0 => (intro w' hS; obtain ⟨s1, s2⟩ := hS; first | (go_simp; done) | (go_simp; rfl))); (try simp only [Act.put, List.setIfInBounds_toArray, List.set_cons_zero, List.set_cons_succ])
    refine perm_q (v := ?v2_1) (some 6) rfl rfl rfl ?q2_1 ?h2_1; (case q2_1 => (intro w' hS; obtain ⟨s1, s2⟩ := hS; first | (go_simp; done) | (go_simp; rfl))); (try simp only [Act.put, List.setIfInBounds_toArray, List.set_cons_zero, List.set_cons_succ])
    refine perm_q (v := ?v2_4) (some 9) rfl rfl rfl ?q2_4 ?h2_4; (case q2_4 => (intro w' hS; obtain ⟨s1, s2⟩ := hS; first | (go_simp; done) | (go_simp; rfl))); (try simp only [Act.put, List.setIfInBounds_toArray, List.set_cons_zero, List.set_cons_succ])
    refine perm_q (v := ?v2_5) (some 10) rfl rfl rfl ?q2_5 ?h2_5; (case q2_5 => (intro w' hS; obtain ⟨s1, s2⟩ := hS; first | (go_simp; done) | (go_simp; rfl))); (try simp only [Act.put, List.setIfInBounds_toArray, List.set_cons_zero, List.set_cons_succ])
    refine perm_e rfl ?_   -- 2: call F40(t5, t6)
    go_wp2_with (go_at_call 40; go_must (refine HH.out.mono ?_; rintro e w1 ⟨X', wv', hp, ho', he⟩; simp only [EndAs, KeptV] at he; obtain ⟨_, ⟨u, ck', rfl, _⟩, rfl⟩ := he))
    refine ⟨⟨?_, ?_⟩, ?_⟩
    · exact (blk_cell (hp.blk Hga.out na) 0).trans rfl
    · exact (blk_cell (hp.blk Hgk.out nk) 2).trans rfl
    refine perm_q (v := ?v2_3) (some 8) rfl rfl rfl ?q2_3 ?h2_3; (case q2_3 => (intro w' hS; obtain ⟨s1, s2⟩ := hS; first | (go_simp; done) | (go_simp; rfl))); (try simp only [Act.put, List.setIfInBounds_toArray, List.set_cons_zero, List.set_cons_succ])
    refine perm_q (v := ?v2_6) (some 11) rfl rfl rfl ?q2_6 ?h2_6; (case q2_6 => (intro w' hS; obtain ⟨s1, s2⟩ := hS; first | (go_simp; done) | (go_simp; rfl))); (try simp only [Act.put, List.setIfInBounds_toArray, List.set_cons_zero, List.set_cons_succ])
    refine perm_q (v := ?v2_7) (some 4) rfl rfl rfl ?q2_7 ?h2_7; (case q2_7 => (intro w' hS; obtain ⟨s1, s2⟩ := hS; first | (go_simp; done) | (go_simp; rfl))); (try simp only [Act.put, List.setIfInBounds_toArray, List.set_cons_zero, List.set_cons_succ])
    refine perm_nil ?_
    go_wp2
    go_ret
    exact ⟨X', wv', ⟨hp.xx, (Keeps.refl _ w).drew.trans hp.keep (fun _ _ h => h), hp.row, hp.core⟩, fun _ _ => ho' _ rfl, _, rfl, rfl⟩

theorem drop_cons {xs : List Int} {k : Nat} (h : k < xs.length) : xs.drop k = xs.getD k 0 :: xs.drop (k + 1) := by
  rw [List.drop_eq_getElem_cons h]
  simp [List.getD_eq_getElem?_getD, h]
theorem getD_mem {xs : List Int} {k : Nat} (h : k < xs.length) : xs.getD k 0 ∈ xs := by
  rw [List.getD_eq_getElem?_getD, List.getElem?_eq_getElem h]; exact List.getElem_mem h
theorem AskPost.ask {w w' : World} {X X' : Nat → Prop} {ab eb ib mb ob : Nat} {E : Env} {s' : PS} {wv wv' : Value} (h : AskPost w X ab eb ib mb ob E wv s' w' X' wv') {v : Value} {xs : List Int} (hx : IntsX w X v xs) (hn : ∀ k, MSet ab ob mb wv k → ¬ X k) : IntsX w' X' v xs :=
  hx.keep h.keep (fun b _ hb hm => hn b hm hb) (fun b hb hX => (h.xx b hb).2 hX)
/-- slices.IndexFunc over what a kept result asked. -/
theorem indexStale {E : Env} {on : List Int} {ask : AskFn} (IH : AskOK E on ask) (hG : QM.Good E on ask) (w : World) (X : Nat → Prop) (ab eb ib mb ob ga gk : Nat) (s : PS) (wv : Value) (ck : Int) (v0 v1 v3 : Value) (sv : Value) (xs : List Int)
    (hc : AskC w X ab eb ib mb ob E s wv) (ho : OpenX w ob on) (hi : PInv E on s) (hq : ∀ q ∈ xs, InQ E q) (hx : IntsX w X sv xs) (hl : xs.length ≤ 12)
    (hga : w.heap[ga]? = some (.cells #[.pointer (some ⟨ab, 0, none⟩)] 86 (0, 0))) (hgk : w.heap[gk]? = some (.cells #[v0, v1, .int .i64 ck, v3] 85 (0, 0))) (na : ¬ MSet ab ob mb wv ga) (nk : ¬ MSet ab ob mb wv gk) :
    Calls Tryd.prog 68 #[sv, .func (.func 65) #[] #[.pointer (some ⟨ga, 0, none⟩), .pointer (some ⟨gk, 0, none⟩)]] w
      (Asks w X ab eb ib mb ob E on wv (fun b v => ∃ n : Int, v = .int .i64 n ∧ b = decide (0 ≤ n)) (staleF ask ck s xs)) := by
  obtain ⟨A, c, rfl, hcc, hcell⟩ := id hx
  have Hx := Lib.hid hx
  have Hcell := Lib.hid hcell
  have Hga := Lib.hid hga
  have Hgk := Lib.hid hgk
  have Ho := Lib.hid ho
  have Hc := Lib.hid hc
  have Hi := Lib.hid hi
  have Hq := Lib.hid hq
  clear hx hcell hga hgk ho hc hi hq
  have la := blk_lt Hga.out
  have lk := blk_lt Hgk.out
  go_enter Tryd.func68, Tryd.ntmps68
  go_wp2
  go_loopw [8] (fun v wr => ∃ (k : Nat) (sk : PS) (Xk : Nat → Prop) (wvk : Value), v = .int .i64 k ∧ k ≤ xs.length ∧ Hid (AskPost w X ab eb ib mb ob E wv sk wr Xk wvk) ∧ Hid (OpenX wr ob on) ∧ Hid (PInv E on sk) ∧ Hid (staleF ask ck sk (xs.drop k) = staleF ask ck s xs))
    (fun v _ => xs.length - (intOf v).toNat)
  case atStart => exact ⟨0, s, X, wv, rfl, Nat.zero_le _, AskPost.refl Hc.out, Ho.out, Hi.out, rfl⟩
  case round =>
    obtain ⟨k, sk, Xk, wvk, rfl, hk, hp, hok, hik, hst⟩ := hrel
    by_cases hlt : k < xs.length
    · have hd := Lib.hid (drop_cons hlt)
      obtain ⟨b, o, rfl, _, hcw⟩ := Hcell.out k hlt
      have hrun := stale1_any IH wr Xk ab eb ib mb ob ga gk sk wvk (xs.getD k 0) ck v0 v1 v3 hp.out.core hok.out hik.out (Hq.out _ (getD_mem hlt)) (hp.out.blk Hga.out na) (hp.out.blk Hgk.out nk) (hp.out.notM la na) (hp.out.notM lk nk)
      have hcw' : wr.cell? ⟨b, o + k, none⟩ = some (.int .i64 (xs.getD k 0)) := by
        obtain ⟨A', c', h1, _, h3⟩ := hp.out.ask Hx.out Hc.out.notX
        injection h1 with h1 _ _
        obtain ⟨b', o', h4, _, h5⟩ := h3 k hlt
        rw [← h1] at h4
        injection h4 with h4
        injection h4 with h4 h6
        subst h4; subst h6
        exact h5
      have hgood := hG sk (xs.getD k 0) hik.out (Hq.out _ (getD_mem hlt))
      have hstep : staleF ask ck sk (xs.drop k) = match ask sk (xs.getD k 0) with | (s1, .error e) => (s1, .error e) | (s1, .ok (_, ch)) => if ck < ch then (s1, .ok true) else staleF ask ck s1 (xs.drop (k + 1)) := by
        rw [hd.out]; rfl
      rcases hr : ask sk (xs.getD k 0) with ⟨s1, r1⟩
      rw [hr] at hrun hgood hstep
      have Hrun := Lib.hid hrun
      have Hgood := Lib.hid hgood
      have Hstep := Lib.hid hstep
      clear hrun hgood hstep hr hcw
      generalize xs.getD k 0 = q at *
      cases r1 with
      | error x =>
        go_wp2_with (go_at_call 65; go_must (refine Hrun.out.mono ?_; rintro e w1 ⟨X', wv', hp', _, he⟩; simp only [EndAs] at he; subst he))
        have hfin : staleF ask ck s xs = (s1, .error x) := by rw [← hst.out, Hstep.out]
        rw [hfin]
        exact ⟨rfl, X', wv', hp.out.trans hp', fun _ h => (by cases h), rfl⟩
      | ok y =>
        obtain ⟨v, ch⟩ := y
        dsimp only at Hstep Hrun
        by_cases hch : ck < ch
        · have hdec : decide (ck < ch) = true := decide_eq_true hch
          have Hs2 : Hid (staleF ask ck s xs = (s1, .ok true)) := Lib.hid (by rw [← hst.out, Hstep.out, if_pos hch])
          rw [hdec] at Hrun
          clear Hstep hdec hch
          go_wp2_with (go_at_call 65; go_must (refine Hrun.out.mono ?_; rintro e w1 ⟨X', wv', hp', ho', he⟩; simp only [EndAs] at he; obtain ⟨_, rfl, rfl⟩ := he))
          go_ret
          rw [Hs2.out]
          exact ⟨X', wv', hp.out.trans hp', fun _ _ => ho' _ rfl, .int .i64 (k : Int), ⟨k, rfl, by simp⟩, rfl⟩
        · have hdec : decide (ck < ch) = false := decide_eq_false hch
          have Hs2 : Hid (staleF ask ck s1 (xs.drop (k + 1)) = staleF ask ck s xs) := Lib.hid (by rw [← hst.out, Hstep.out, if_neg hch])
          rw [hdec] at Hrun
          clear Hstep hdec hch
          go_wp2_with (go_at_call 65; go_must (refine Hrun.out.mono ?_; rintro e w1 ⟨X', wv', hp', ho', he⟩; simp only [EndAs] at he; obtain ⟨_, rfl, rfl⟩ := he))
          go_roundw
          case rel => exact ⟨k + 1, s1, X', wv', by go_num, by omega, hp.out.trans hp', ho' _ rfl, Hgood.out.1.inv, Hs2⟩
          case measure => simp [intOf]; omega
    · have hk' : k = xs.length := by omega
      subst hk'
      have Hs2 : Hid (staleF ask ck s xs = (sk, .ok false)) := Lib.hid (by rw [← hst.out, List.drop_length]; rfl)
      go_wp2
      go_ret
      rw [Hs2.out]
      exact ⟨Xk, wvk, hp.out, fun _ _ => hok.out, .int .i64 (-1), ⟨-1, rfl, rfl⟩, rfl⟩
/-- slices.ContainsFunc. -/
theorem containsStale {E : Env} {on : List Int} {ask : AskFn} (IH : AskOK E on ask) (hG : QM.Good E on ask) (w : World) (X : Nat → Prop) (ab eb ib mb ob ga gk : Nat) (s : PS) (wv : Value) (ck : Int) (v0 v1 v3 : Value) (sv : Value) (xs : List Int)
    (hc : AskC w X ab eb ib mb ob E s wv) (ho : OpenX w ob on) (hi : PInv E on s) (hq : ∀ q ∈ xs, InQ E q) (hx : IntsX w X sv xs) (hl : xs.length ≤ 12)
    (hga : w.heap[ga]? = some (.cells #[.pointer (some ⟨ab, 0, none⟩)] 86 (0, 0))) (hgk : w.heap[gk]? = some (.cells #[v0, v1, .int .i64 ck, v3] 85 (0, 0))) (na : ¬ MSet ab ob mb wv ga) (nk : ¬ MSet ab ob mb wv gk) :
    Calls Tryd.prog 58 #[sv, .func (.func 65) #[] #[.pointer (some ⟨ga, 0, none⟩), .pointer (some ⟨gk, 0, none⟩)]] w
      (Asks w X ab eb ib mb ob E on wv (fun b v => v = .bool b) (staleF ask ck s xs)) := by
  have Hrun := Lib.hid (indexStale IH hG w X ab eb ib mb ob ga gk s wv ck v0 v1 v3 sv xs hc ho hi hq hx hl hga hgk na nk)
  clear hx hga hgk ho hc hi hq
  rcases hr : staleF ask ck s xs with ⟨s1, r1⟩
  rw [hr] at Hrun
  clear hr
  cases r1 with
  | error x =>
    go_enter Tryd.func58, Tryd.ntmps58
    go_wp2_with (go_at_call 68; go_must (refine Hrun.out.mono ?_; rintro e w1 ⟨X', wv', hp', _, he⟩; simp only [EndAs] at he; subst he))
    exact ⟨rfl, X', wv', hp', fun _ h => (by cases h), rfl⟩
  | ok b =>
    go_enter Tryd.func58, Tryd.ntmps58
    go_wp2_with (go_at_call 68; go_must (refine Hrun.out.mono ?_; rintro e w1 ⟨X', wv', hp', ho', he⟩; simp only [EndAs] at he; obtain ⟨_, ⟨n, rfl, rfl⟩, rfl⟩ := he))
    go_ret
    exact ⟨X', wv', hp', fun _ _ => ho' _ rfl, _, rfl, rfl⟩
/-- stale. -/
theorem stale_any {E : Env} {on : List Int} {ask : AskFn} (IH : AskOK E on ask) (hG : QM.Good E on ask) (w : World) (X : Nat → Prop) (ab eb ib mb ob : Nat) (s : PS) (wv : Value) (k : KeptR) (u : Value)
    (hc : AskC w X ab eb ib mb ob E s wv) (ho : OpenX w ob on) (hi : PInv E on s) (hk : KOk E k) (hx : IntsX w X u k.asked) :
    Calls Tryd.prog 56 #[.pointer (some ⟨ab, 0, none⟩), .agg #[.int .i64 k.value, u, .int .i64 k.checked, .int .i64 k.changed]] w
      (Asks w X ab eb ib mb ob E on wv (fun b v => v = .bool b) (staleF ask k.checked s k.asked)) := by
  obtain ⟨uA, uc, hu, _, _⟩ := id hx
  have Hx := Lib.hid hx
  have Ho := Lib.hid ho
  have Hc := Lib.hid hc
  have Hi := Lib.hid hi
  have Hk := Lib.hid hk
  have Hu := Lib.hid hu
  clear hx ho hc hi hk hu
  go_enter Tryd.func56, Tryd.ntmps56
  go_wp2_with (first
    | ((with_reducible refine at_dst (N := 2) rfl ?_); go_must (refine ev_box (cs := #[.pointer (some ⟨ab, 0, none⟩)]) rfl rfl rfl ?_; intro g1 w1 hg1 hl1 hb1 hk1); have Hb1 := Lib.hid hb1; clear hb1; (try simp only [Act.put, List.setIfInBounds_toArray, List.set_cons_zero, List.set_cons_succ]))
    | ((with_reducible refine at_dst (N := 3) rfl ?_); go_must (refine ev_box (cs := #[.int .i64 k.value, u, .int .i64 k.checked, .int .i64 k.changed]) rfl rfl rfl ?_; intro g2 w2 hg2 hl2 hb2 hk2); have Hb2 := Lib.hid hb2; have f1 := blk_cell hb2 1; clear hb2; (try simp only [Act.put, List.setIfInBounds_toArray, List.set_cons_zero, List.set_cons_succ])))
  have hkk : Keeps Nob w w2 := hk1.trans hk2 (fun _ _ h => h)
  have hn := Hc.out.lt
  have hs1 := hk1.size
  have hrun := containsStale IH hG w2 X ab eb ib mb ob g1 g2 s wv k.checked _ _ _ u k.asked (Hc.out.keep hkk (fun _ _ h => h)) (Ho.out.keep hkk id) Hi.out Hk.out.asked
    (Hx.out.keep hkk (fun _ _ _ h => h) (fun _ _ h => h)) Hk.out.alen (hk2.blk Hb1.out id) Hb2.out (fun h => by have := hn _ h; omega) (fun h => by have := hn _ h; omega)
  rcases hr : staleF ask k.checked s k.asked with ⟨s1, r1⟩
  rw [hr] at hrun
  have Hr := Lib.hid hr
  clear hr
  cases r1 with
  | error x =>
    refine hrun.mono ?_
    rintro e w3 ⟨X', wv', hp', _, he⟩
    simp only [EndAs] at he
    subst he
    refine ⟨rfl, ?_⟩
    rw [Hr.out]
    exact ⟨X', wv', AskPost.after (M := Nob) hkk hp' rfl, fun _ h => (by cases h), rfl⟩
  | ok b =>
    refine hrun.mono ?_
    rintro e w3 ⟨X', wv', hp', ho', he⟩
    simp only [EndAs] at he
    obtain ⟨_, rfl, rfl⟩ := he
    go_wp2
    go_ret
    rw [Hr.out]
    exact ⟨X', wv', AskPost.after (M := Nob) hkk hp' rfl, fun _ _ => ho' _ rfl, _, rfl, rfl⟩
end Go.Proofs.QW
