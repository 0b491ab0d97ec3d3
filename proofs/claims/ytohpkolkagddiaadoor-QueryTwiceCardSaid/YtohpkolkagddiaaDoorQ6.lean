/-
  A rule worked out, in memory: answer, kind by kind, comes to the model's 'evalR'. Condition: nested askings come to the model's.
-/
import Derived.Test.YtohpkolkagddiaaDoorQ5
namespace Go.Proofs.QW
open Go.RowKit Go.Proofs.KL Go.Proofs.QM
set_option maxRecDepth 100000
set_option linter.unusedSimpArgs false
set_option linter.unusedVariables false

theorem WT.blk {w w' : World} {X X' : Nat → Prop} {ab ob mb gk : Nat} {wv wv' av av' : Value} (h : WT w X ab ob mb gk wv av w' X' wv' av') {b : Nat} {o : Obj} (hb : w.heap[b]? = some o) (h1 : ¬ MSet ab ob mb wv b) (h2 : b ≠ gk) (h3 : ¬ some b = av.ownBlock) : w'.heap[b]? = some o :=
  h.keep.blk hb (fun hm => hm.elim h1 (fun hm => hm.elim h2 h3))
theorem WT.ints {w w' : World} {X X' : Nat → Prop} {ab eb ib ob mb ga gk : Nat} {E : Env} {s : PS} {wv wv' av av' : Value} {asked : List Int} (h : WT w X ab ob mb gk wv av w' X' wv' av') (hw : WW w X ab eb ib mb ob ga gk E s wv asked av) {v : Value} {xs : List Int} (hx : IntsX w X v xs) : IntsX w' X' v xs :=
  hx.keep h.keep (fun b _ hb hm => by
    rcases hm with hm | hm | hm
    · exact hw.core.notX b hm hb
    · subst hm; exact hw.nk (.inr (.inr (.inr hb)))
    · exact hw.nv b hm.symm (.inr (.inr (.inr hb)))) (fun b hb hX => (h.xx b hb).2 hX)
theorem WW.keep {w w' : World} {X : Nat → Prop} {ab eb ib mb ob ga gk : Nat} {E : Env} {s : PS} {wv av : Value} {asked : List Int} (h : WW w X ab eb ib mb ob ga gk E s wv asked av) (hk : Keeps Nob w w') : WW w' X ab eb ib mb ob ga gk E s wv asked av :=
  ⟨h.core.keepF hk (fun _ _ hm => hm.elim), hk.blk h.hga id, hk.blk h.hgk id, ownsRow_keep h.own hk (fun _ _ => id), h.na, h.nk, h.nv⟩
theorem WT.after {w0 w w' : World} {X X' : Nat → Prop} {ab ob mb gk : Nat} {wv wv' av av' : Value} (hk : Keeps Nob w0 w) (h : WT w X ab ob mb gk wv av w' X' wv' av') : WT w0 X ab ob mb gk wv av w' X' wv' av' :=
  ⟨fun b hb => h.xx b (Nat.lt_of_lt_of_le hb hk.size), (hk.mono (fun _ _ hm => hm.elim)).trans h.keep (fun _ _ hm => hm), h.row.imp id (fun ⟨b, h1, h2⟩ => ⟨b, h1, Nat.le_trans hk.size h2⟩), h.rowa.imp id (fun ⟨b, h1, h2⟩ => ⟨b, h1, Nat.le_trans hk.size h2⟩)⟩
/-- A block that is none of a working out's. -/
structure Far (w : World) (ab ob mb gk : Nat) (wv av : Value) (b : Nat) : Prop where
  lt : b < w.heap.size
  h1 : ¬ MSet ab ob mb wv b
  h2 : b ≠ gk
  h3 : ¬ some b = av.ownBlock
theorem Far.step {w w' : World} {X X' : Nat → Prop} {ab ob mb gk : Nat} {wv wv' av av' : Value} {b : Nat} (h : Far w ab ob mb gk wv av b) (ht : WT w X ab ob mb gk wv av w' X' wv' av') : Far w' ab ob mb gk wv' av' b := by
  have hlt := h.lt
  refine ⟨Nat.lt_of_lt_of_le h.lt ht.keep.size, fun hm => ?_, h.h2, fun hm => ?_⟩
  · rcases hm with h1 | h1 | h1 | h1
    · exact h.h1 (.inl h1)
    · exact h.h1 (.inr (.inl h1))
    · exact h.h1 (.inr (.inr (.inl h1)))
    · rcases ht.row with hr | ⟨c, hc, hlt'⟩
      · exact h.h1 (.inr (.inr (.inr (h1.trans hr))))
      · rw [hc] at h1; injection h1 with h1; omega
  · rcases ht.rowa with hr | ⟨c, hc, hlt'⟩
    · exact h.h3 (hm.trans hr)
    · rw [hc] at hm; injection hm with hm; omega
theorem Far.blk {w w' : World} {X X' : Nat → Prop} {ab ob mb gk : Nat} {wv wv' av av' : Value} {b : Nat} (h : Far w ab ob mb gk wv av b) (ht : WT w X ab ob mb gk wv av w' X' wv' av') {o : Obj} (hb : w.heap[b]? = some o) : w'.heap[b]? = some o := ht.blk hb h.h1 h.h2 h.h3
theorem WW.far {w w1 : World} {X : Nat → Prop} {ab eb ib mb ob ga gk : Nat} {E : Env} {s : PS} {wv av : Value} {asked : List Int} (h : WW w X ab eb ib mb ob ga gk E s wv asked av) {g : Nat} (hg : w.heap.size ≤ g) (hl : g < w1.heap.size) : Far w1 ab ob mb gk wv av g := by
  have h1 := blk_lt h.hgk
  refine ⟨hl, fun hm => ?_, by omega, fun hm => ?_⟩
  · have := h.core.lt _ hm; omega
  · have := (own_lt h.own g hm.symm).1; omega
def res67 (q : Int) (s1 : PS) : Except Int (Int × Int) → PS × Except Int (Int × List Int)
  | .error e => (s1, .error e)
  | .ok (v, _) => (s1, .ok (v, [q]))
/-- One call of the closure, from a state of a working out to the next: 'Works' at the model's step. -/
theorem step_any {E : Env} {on : List Int} {ask : AskFn} (IH : AskOK E on ask) {w : World} {X : Nat → Prop} {ab eb ib mb ob ga gk : Nat} {s : PS} {wv av : Value} {asked : List Int} {q : Int}
    (hw : WW w X ab eb ib mb ob ga gk E s wv asked av) (ho : OpenX w ob on) (hi : PInv E on s) (hq : InQ E q) (hl : asked.length ≤ 100) {s1 : PS} {r1 : Except Int (Int × Int)} (hr : ask s q = (s1, r1)) :
    Calls Tryd.prog 67 #[.int .i64 q, .pointer (some ⟨gk, 0, none⟩), .pointer (some ⟨ga, 0, none⟩)] w
      (Works w X ab eb ib mb ob ga gk E on wv av asked (res67 q s1 r1)) := by
  have h := work1_any IH w X ab eb ib mb ob ga gk s wv av asked q hw ho hi hq hl
  rw [hr] at h
  cases r1 with
  | error e => exact h
  | ok y => obtain ⟨v, c⟩ := y; exact h
def prepend (got : List Int) (r : PS × Except Int (List Int)) : PS × Except Int (List Int) :=
  match r with
  | (s, .error e) => (s, .error e)
  | (s, .ok vs) => (s, .ok (got ++ vs))
theorem sum_mod (n : Int) (hn : 1 ≤ n) : ∀ (l : List Int) (a : Int), l.foldl (fun m x => (m + x) % n) (a % n) = (a + l.sum) % n
  | [], a => by simp
  | x :: r, a => by
    rw [List.foldl_cons, List.sum_cons, ← Int.add_assoc, ← sum_mod n hn r (a + x)]
    congr 1
    rw [Int.emod_add_emod]
theorem sum_range {l : List Int} (h : ∀ v ∈ l, 0 ≤ v ∧ v ≤ 1048576) : 0 ≤ l.sum ∧ l.sum ≤ 1048576 * l.length := by
  induction l with
  | nil => simp
  | cons x r ih =>
    have h1 := h x List.mem_cons_self
    have h2 := ih (fun v hv => h v (List.mem_cons_of_mem _ hv))
    rw [List.sum_cons, List.length_cons]
    omega

theorem IntsX.cellAt {w : World} {X : Nat → Prop} {b o n c : Nat} {xs : List Int} (h : IntsX w X (.slice (some ⟨b, o, none⟩) n c) xs) {k : Nat} (hk : k < xs.length) : w.cell? ⟨b, o + k, none⟩ = some (.int .i64 (xs.getD k 0)) := by
  obtain ⟨A', c', h1, _, h3⟩ := h
  injection h1 with h1 _ _
  obtain ⟨b', o', h4, _, h5⟩ := h3 k hk
  rw [← h1] at h4
  injection h4 with h4
  injection h4 with h4 h6
  subst h4; subst h6
  exact h5
theorem take_snoc {xs : List Int} {k : Nat} (h : k < xs.length) : xs.take k ++ [xs.getD k 0] = xs.take (k + 1) := by
  rw [List.take_succ_eq_append_getElem h]
  simp [List.getD_eq_getElem?_getD, h]
/-- The state of a loop over what a rule asks. -/
structure LoopSt (w1 : World) (X : Nat → Prop) (ab eb ib mb ob ga gk : Nat) (E : Env) (on : List Int) (ask : AskFn) (stop : Bool) (s : PS) (wv av : Value) (asks : List Int) (k : Nat) (got : List Int) (sk : PS) (wr : World) (Xk : Nat → Prop) (wvk avk : Value) : Prop where
  len : got.length = k
  rng : ∀ v ∈ got, 0 ≤ v ∧ v ≤ 1048576
  tr : WT w1 X ab ob mb gk wv av wr Xk wvk avk
  st : WW wr Xk ab eb ib mb ob ga gk E sk wvk (asks.take k) avk
  op : OpenX wr ob on
  inv : PInv E on sk
  eq : askAll ask stop s asks = prepend got (askAll ask stop sk (asks.drop k))
theorem LoopSt.next {w1 wr w2 : World} {X Xk X' : Nat → Prop} {ab eb ib mb ob ga gk : Nat} {E : Env} {on : List Int} {ask : AskFn} {stop : Bool} {s sk s1 : PS} {wv av wvk avk wv' av' : Value} {asks : List Int} {k : Nat} {got : List Int} {v ch : Int}
    (h : LoopSt w1 X ab eb ib mb ob ga gk E on ask stop s wv av asks k got sk wr Xk wvk avk) (hlt : k < asks.length) (hr : ask sk (asks.getD k 0) = (s1, .ok (v, ch))) (hv : 0 ≤ v ∧ v ≤ 1048576) (hs : ¬ (stop = true ∧ v ≠ 0)) (hi : PInv E on s1)
    (ht : WT wr Xk ab ob mb gk wvk avk w2 X' wv' av') (hw : WW w2 X' ab eb ib mb ob ga gk E s1 wv' (asks.take k ++ [asks.getD k 0]) av') (ho : OpenX w2 ob on) :
    LoopSt w1 X ab eb ib mb ob ga gk E on ask stop s wv av asks (k + 1) (got ++ [v]) s1 w2 X' wv' av' := by
  refine ⟨by simp [h.len], fun u hu => ?_, h.tr.trans ht, by rw [← take_snoc hlt]; exact hw, ho, hi, ?_⟩
  · rcases List.mem_append.1 hu with hu | hu
    · exact h.rng u hu
    · rw [List.mem_singleton.1 hu]; exact hv
  · rw [h.eq, drop_cons hlt, askAll, hr]
    simp only [if_neg hs]
    rcases askAll ask stop s1 (asks.drop (k + 1)) with ⟨s2, r2⟩
    cases r2 <;> simp [prepend]
theorem LoopSt.err {w1 wr : World} {X Xk : Nat → Prop} {ab eb ib mb ob ga gk : Nat} {E : Env} {on : List Int} {ask : AskFn} {stop : Bool} {s sk s1 : PS} {wv av wvk avk : Value} {asks : List Int} {k : Nat} {got : List Int} {e : Int}
    (h : LoopSt w1 X ab eb ib mb ob ga gk E on ask stop s wv av asks k got sk wr Xk wvk avk) (hlt : k < asks.length) (hr : ask sk (asks.getD k 0) = (s1, .error e)) : askAll ask stop s asks = (s1, .error e) := by
  rw [h.eq, drop_cons hlt, askAll, hr]; rfl
theorem LoopSt.stop_ {w1 wr : World} {X Xk : Nat → Prop} {ab eb ib mb ob ga gk : Nat} {E : Env} {on : List Int} {ask : AskFn} {s sk s1 : PS} {wv av wvk avk : Value} {asks : List Int} {k : Nat} {got : List Int} {v ch : Int}
    (h : LoopSt w1 X ab eb ib mb ob ga gk E on ask true s wv av asks k got sk wr Xk wvk avk) (hlt : k < asks.length) (hr : ask sk (asks.getD k 0) = (s1, .ok (v, ch))) (hv : v ≠ 0) : askAll ask true s asks = (s1, .ok (got ++ [v])) := by
  rw [h.eq, drop_cons hlt, askAll, hr]
  simp [hv, prepend]
theorem LoopSt.end_ {w1 wr : World} {X Xk : Nat → Prop} {ab eb ib mb ob ga gk : Nat} {E : Env} {on : List Int} {ask : AskFn} {stop : Bool} {s sk : PS} {wv av wvk avk : Value} {asks : List Int} {got : List Int}
    (h : LoopSt w1 X ab eb ib mb ob ga gk E on ask stop s wv av asks asks.length got sk wr Xk wvk avk) : askAll ask stop s asks = (sk, .ok got) := by
  rw [h.eq, List.drop_length]; simp [askAll, prepend]
theorem LoopSt.start {w1 : World} {X : Nat → Prop} {ab eb ib mb ob ga gk : Nat} {E : Env} {on : List Int} {ask : AskFn} {stop : Bool} {s : PS} {wv av : Value} {asks : List Int} (hw : WW w1 X ab eb ib mb ob ga gk E s wv [] av) (ho : OpenX w1 ob on) (hi : PInv E on s) :
    LoopSt w1 X ab eb ib mb ob ga gk E on ask stop s wv av asks 0 [] s w1 X wv av :=
  ⟨rfl, fun _ h => (by cases h), WT.refl _ _ _ _ _ _ _ _, by simpa using hw, ho, hi, by
    rcases h : askAll ask stop s asks with ⟨s2, r2⟩
    cases r2 <;> simp [prepend, h]⟩

theorem LoopSt.works {w w1 wr : World} {X Xk : Nat → Prop} {ab eb ib mb ob ga gk : Nat} {E : Env} {on : List Int} {ask : AskFn} {stop : Bool} {s sk : PS} {wv av wvk avk : Value} {asks : List Int} {k : Nat} {got : List Int}
    (h : LoopSt w1 X ab eb ib mb ob ga gk E on ask stop s wv av asks k got sk wr Xk wvk avk) (hk : Keeps Nob w w1) {v : Int} {RR : PS × Except Int (Int × List Int)} (hR : RR = (sk, .ok (v, asks.take k))) :
    Works w X ab eb ib mb ob ga gk E on wv av [] RR (.returned (.int .i64 v)) wr := by
  rw [hR]
  exact ⟨Xk, wvk, avk, WT.after hk h.tr, h.st.core, by simpa using h.st, h.op, rfl⟩
theorem evalR_loop {ask : AskFn} {s s1 : PS} {r : QRule} (hk : r.kind ≠ 3) {got : List Int} (h : askAll ask (r.kind == 4) s r.asks = (s1, .ok got)) : evalR ask s r = (s1, .ok (answerOf r got, r.asks.take got.length)) := by
  unfold evalR; rw [if_neg hk, h]
theorem evalR_err {ask : AskFn} {s s1 : PS} {r : QRule} (hk : r.kind ≠ 3) {e : Int} (h : askAll ask (r.kind == 4) s r.asks = (s1, .error e)) : evalR ask s r = (s1, .error e) := by
  unfold evalR; rw [if_neg hk, h]
set_option maxHeartbeats 1000000 in
/-- RuSum. -/
theorem answer_sum {E : Env} {on : List Int} {ask : AskFn} (IH : AskOK E on ask) (hG : QM.Good E on ask) (w : World) (X : Nat → Prop) (ab eb ib mb ob ga gk : Nat) (s : PS) (wv av asv : Value) (n : Int) (asks : List Int)
    (hw : WW w X ab eb ib mb ob ga gk E s wv [] av) (ho : OpenX w ob on) (hi : PInv E on s) (hq : ∀ q ∈ asks, InQ E q) (hx : IntsX w X asv asks) (hl : asks.length ≤ 12) (hn1 : 1 ≤ n) (hn2 : n ≤ 1048576) :
    Calls Tryd.prog 66 #[.agg #[.int .i64 2, .int .i64 n, asv], .func (.func 67) #[] #[.pointer (some ⟨gk, 0, none⟩), .pointer (some ⟨ga, 0, none⟩)]] w
      (Works w X ab eb ib mb ob ga gk E on wv av [] (evalR ask s ⟨2, n, asks⟩)) := by
  generalize hRR : evalR ask s ⟨2, n, asks⟩ = RR
  have HRR := Lib.hid hRR
  obtain ⟨A, c, rfl, hcc, hcell⟩ := id hx
  have Hx := Lib.hid hx
  have Hw := Lib.hid hw
  have Ho := Lib.hid ho
  have Hi := Lib.hid hi
  have Hq := Lib.hid hq
  clear hRR hx hw ho hi hq hcell
  go_enter Tryd.func66, Tryd.ntmps66
  go_wp2_with ((with_reducible refine at_dst (N := 2) rfl ?_); go_must (refine ev_box (cs := #[.int .i64 2, .int .i64 n, .slice A asks.length c]) rfl rfl rfl ?_; intro g2 w1 hg2 hl2 hb2 hk2); have Hb2 := Lib.hid hb2; have f0 := blk_cell hb2 0; have f2 := blk_cell hb2 2; clear hb2; (try simp only [Act.put, List.setIfInBounds_toArray, List.set_cons_zero, List.set_cons_succ]))
  have Hfar := Lib.hid (Hw.out.far hg2 hl2)
  have Hw1 := Lib.hid (Hw.out.keep hk2)
  have Ho1 := Lib.hid (Ho.out.keep hk2 id)
  have Hx1 := Lib.hid (Hx.out.keep hk2 (fun _ _ _ h => h) (fun _ _ h => h))
  have Hk2 := Lib.hid hk2
  clear f0 f2 hk2
  go_loopw [5, 21] (fun sm v wr => ∃ (k : Nat) (got : List Int) (sk : PS) (Xk : Nat → Prop) (wvk avk : Value), v = .int .i64 k ∧ sm = .int .i64 got.sum ∧ k ≤ asks.length ∧ Hid (LoopSt w1 X ab eb ib mb ob ga gk E on ask false s wv av asks k got sk wr Xk wvk avk))
    (fun _ v _ => asks.length - (intOf v).toNat)
  case atStart => exact ⟨0, [], s, X, wv, av, rfl, rfl, Nat.zero_le _, LoopSt.start Hw1.out Ho1.out Hi.out⟩
  case round =>
    obtain ⟨k, got, sk, Xk, wvk, avk, rfl, rfl, hk, hst⟩ := hrel
    obtain ⟨hs0, hs1⟩ := sum_range hst.out.rng
    rw [hst.out.len] at hs1
    by_cases hlt : k < asks.length
    · have hx1 := hst.out.tr.ints Hw1.out Hx1.out
      obtain ⟨b, o, rfl, _, _⟩ := (by obtain ⟨A', c', h1, _, h3⟩ := Hx1.out; injection h1 with h1 _ _; subst h1; exact h3 k hlt : ∃ b o, A = some ⟨b, o, none⟩ ∧ X b ∧ w1.cell? ⟨b, o + k, none⟩ = some (.int .i64 (asks.getD k 0)))
      have hcw := hx1.cellAt hlt
      obtain ⟨q, Hqd⟩ : ∃ q, Hid (asks.getD k 0 = q) := ⟨_, rfl⟩
      rw [Hqd.out] at hcw
      have hqq := Hq.out _ (getD_mem hlt)
      have hgood := hG sk (asks.getD k 0) hst.out.inv hqq
      rcases hr : ask sk (asks.getD k 0) with ⟨s1, r1⟩
      have Hrun := Lib.hid (step_any IH hst.out.st hst.out.op hst.out.inv hqq (by simp; omega) hr)
      rw [hr] at hgood
      rw [Hqd.out] at Hrun
      have Hgood := Lib.hid hgood
      have Hr := Lib.hid hr
      have Hx2 := Lib.hid hx1
      clear hgood hr hx1 hqq
      cases r1 with
      | error x =>
        go_wp2_with (go_at_call 67; go_must (refine Hrun.out.mono ?_; rintro e w2 ⟨X', wv', av', ht', hc', he⟩; dsimp only [res67] at he hc' ht'; subst he))
        refine ⟨rfl, X', wv', av', WT.after Hk2.out (hst.out.tr.trans ht'), ?_⟩
        rw [← HRR.out, evalR_err (r := ⟨2, n, asks⟩) (show (2 : Int) ≠ 3 by decide) (hst.out.err hlt Hr.out)]
        exact ⟨hc', rfl⟩
      | ok y =>
        obtain ⟨v, ch⟩ := y
        have hv := Hgood.out.2 v ch rfl
        go_wp2_with (go_at_call 67; go_must (refine Hrun.out.mono ?_; rintro e w2 ⟨X', wv', av', ht', hc', he⟩; dsimp only [res67] at he hc' ht'; obtain ⟨hw', ho', rfl⟩ := he))
        go_roundw
        case rel => exact ⟨k + 1, got ++ [v], s1, X', wv', av', by go_num, by simp, by omega, hst.out.next hlt Hr.out hv (by simp) Hgood.out.1.inv ht' (by rw [Hqd.out]; exact hw') ho'⟩
        case measure => simp [intOf]; omega
    · obtain rfl : k = asks.length := by omega
      have hb3 := Hfar.out.blk hst.out.tr Hb2.out
      have f1 := blk_cell hb3 1
      have hn0 : (n == 0) = false := by simp; omega
      clear hb3
      have Hend := Lib.hid hst.out.end_
      go_wp2
      go_ret
      refine hst.out.works Hk2.out ?_
      rw [← HRR.out, evalR_loop (r := ⟨2, n, asks⟩) (show (2 : Int) ≠ 3 by decide) Hend.out]
      have h1 := sum_mod n hn1 got 0
      rw [Int.zero_emod, Int.zero_add] at h1
      show (sk, Except.ok (got.foldl (fun m x => (m + x) % n) 0, asks.take got.length)) = _
      rw [h1, hst.out.len]

theorem last_zero {l : List Int} (h : ∀ v ∈ l, v = 0) : l.getLastD 0 = 0 := by
  cases l with
  | nil => rfl
  | cons x r =>
    rw [List.getLastD_eq_getLast?, List.getLast?_eq_some_getLast (by simp)]
    exact h _ (List.getLast_mem _)
set_option maxHeartbeats 1000000 in
/-- RuFirst. -/
theorem answer_first {E : Env} {on : List Int} {ask : AskFn} (IH : AskOK E on ask) (hG : QM.Good E on ask) (w : World) (X : Nat → Prop) (ab eb ib mb ob ga gk : Nat) (s : PS) (wv av asv : Value) (n : Int) (asks : List Int)
    (hw : WW w X ab eb ib mb ob ga gk E s wv [] av) (ho : OpenX w ob on) (hi : PInv E on s) (hq : ∀ q ∈ asks, InQ E q) (hx : IntsX w X asv asks) (hl : asks.length ≤ 12) :
    Calls Tryd.prog 66 #[.agg #[.int .i64 4, .int .i64 n, asv], .func (.func 67) #[] #[.pointer (some ⟨gk, 0, none⟩), .pointer (some ⟨ga, 0, none⟩)]] w
      (Works w X ab eb ib mb ob ga gk E on wv av [] (evalR ask s ⟨4, n, asks⟩)) := by
  generalize hRR : evalR ask s ⟨4, n, asks⟩ = RR
  have HRR := Lib.hid hRR
  obtain ⟨A, c, rfl, hcc, hcell⟩ := id hx
  have Hx := Lib.hid hx
  have Hw := Lib.hid hw
  have Ho := Lib.hid ho
  have Hi := Lib.hid hi
  have Hq := Lib.hid hq
  clear hRR hx hw ho hi hq hcell
  go_enter Tryd.func66, Tryd.ntmps66
  go_wp2_with ((with_reducible refine at_dst (N := 2) rfl ?_); go_must (refine ev_box (cs := #[.int .i64 4, .int .i64 n, .slice A asks.length c]) rfl rfl rfl ?_; intro g2 w1 hg2 hl2 hb2 hk2); have Hb2 := Lib.hid hb2; have f0 := blk_cell hb2 0; have f2 := blk_cell hb2 2; clear hb2; (try simp only [Act.put, List.setIfInBounds_toArray, List.set_cons_zero, List.set_cons_succ]))
  have Hfar := Lib.hid (Hw.out.far hg2 hl2)
  have Hw1 := Lib.hid (Hw.out.keep hk2)
  have Ho1 := Lib.hid (Ho.out.keep hk2 id)
  have Hx1 := Lib.hid (Hx.out.keep hk2 (fun _ _ _ h => h) (fun _ _ h => h))
  have Hk2 := Lib.hid hk2
  clear f0 f2 hk2
  go_loopw [61] (fun v wr => ∃ (k : Nat) (got : List Int) (sk : PS) (Xk : Nat → Prop) (wvk avk : Value), v = .int .i64 k ∧ k ≤ asks.length ∧ Hid (∀ u ∈ got, u = 0) ∧ Hid (LoopSt w1 X ab eb ib mb ob ga gk E on ask true s wv av asks k got sk wr Xk wvk avk))
    (fun v _ => asks.length - (intOf v).toNat)
  case atStart => exact ⟨0, [], s, X, wv, av, rfl, Nat.zero_le _, fun _ h => (by cases h), LoopSt.start Hw1.out Ho1.out Hi.out⟩
  case round =>
    obtain ⟨k, got, sk, Xk, wvk, avk, rfl, hk, hz, hst⟩ := hrel
    by_cases hlt : k < asks.length
    · have hx1 := hst.out.tr.ints Hw1.out Hx1.out
      obtain ⟨b, o, rfl, _, _⟩ := (by obtain ⟨A', c', h1, _, h3⟩ := Hx1.out; injection h1 with h1 _ _; subst h1; exact h3 k hlt : ∃ b o, A = some ⟨b, o, none⟩ ∧ X b ∧ w1.cell? ⟨b, o + k, none⟩ = some (.int .i64 (asks.getD k 0)))
      have hcw := hx1.cellAt hlt
      obtain ⟨q, Hqd⟩ : ∃ q, Hid (asks.getD k 0 = q) := ⟨_, rfl⟩
      rw [Hqd.out] at hcw
      have hqq := Hq.out _ (getD_mem hlt)
      have hgood := hG sk (asks.getD k 0) hst.out.inv hqq
      rcases hr : ask sk (asks.getD k 0) with ⟨s1, r1⟩
      have Hrun := Lib.hid (step_any IH hst.out.st hst.out.op hst.out.inv hqq (by simp; omega) hr)
      rw [hr] at hgood
      rw [Hqd.out] at Hrun
      have Hgood := Lib.hid hgood
      have Hr := Lib.hid hr
      have Hx2 := Lib.hid hx1
      clear hgood hr hx1 hqq
      cases r1 with
      | error x =>
        go_wp2_with (go_at_call 67; go_must (refine Hrun.out.mono ?_; rintro e w2 ⟨X', wv', av', ht', hc', he⟩; dsimp only [res67] at he hc' ht'; subst he))
        refine ⟨rfl, X', wv', av', WT.after Hk2.out (hst.out.tr.trans ht'), ?_⟩
        rw [← HRR.out, evalR_err (r := ⟨4, n, asks⟩) (show (4 : Int) ≠ 3 by decide) (hst.out.err hlt Hr.out)]
        exact ⟨hc', rfl⟩
      | ok y =>
        obtain ⟨v, ch⟩ := y
        have hv := Hgood.out.2 v ch rfl
        by_cases hv0 : v = 0
        · subst hv0
          go_wp2_with (go_at_call 67; go_must (refine Hrun.out.mono ?_; rintro e w2 ⟨X', wv', av', ht', hc', he⟩; dsimp only [res67] at he hc' ht'; obtain ⟨hw', ho', rfl⟩ := he))
          go_roundw
          case rel => exact ⟨k + 1, got ++ [0], s1, X', wv', av', by go_num, by omega, fun u hu => (List.mem_append.1 hu).elim (hz.out u) (fun h => List.mem_singleton.1 h), hst.out.next hlt Hr.out (by omega) (by simp) Hgood.out.1.inv ht' (by rw [Hqd.out]; exact hw') ho'⟩
          case measure => simp [intOf]; omega
        · have hvb : (v == 0) = false := by simpa using hv0
          have hvb2 : (v != 0) = true := by simpa using hv0
          have Hv0 := Lib.hid hv0
          clear hv0
          go_wp2_with (go_at_call 67; go_must (refine Hrun.out.mono ?_; rintro e w2 ⟨X', wv', av', ht', hc', he⟩; dsimp only [res67] at he hc' ht'; obtain ⟨hw', ho', rfl⟩ := he))
          go_ret
          rw [← HRR.out, evalR_loop (r := ⟨4, n, asks⟩) (show (4 : Int) ≠ 3 by decide) (hst.out.stop_ hlt Hr.out Hv0.out)]
          refine ⟨X', wv', av', WT.after Hk2.out (hst.out.tr.trans ht'), hc', ?_⟩
          have e1 : answerOf ⟨4, n, asks⟩ (got ++ [v]) = v := by
            show (got ++ [v]).getLastD 0 = v
            simp
          have e2 : asks.take (got ++ [v]).length = asks.take k ++ [asks.getD k 0] := by rw [take_snoc hlt]; simp [hst.out.len]
          show WW _ _ _ _ _ _ _ _ _ _ _ _ ([] ++ asks.take (got ++ [v]).length) _ ∧ _ ∧ _
          rw [e1, List.nil_append, e2, Hqd.out]
          exact ⟨hw', ho', rfl⟩
    · obtain rfl : k = asks.length := by omega
      have Hend := Lib.hid hst.out.end_
      go_wp2
      go_ret
      refine hst.out.works Hk2.out ?_
      rw [← HRR.out, evalR_loop (r := ⟨4, n, asks⟩) (show (4 : Int) ≠ 3 by decide) Hend.out]
      show (sk, Except.ok (got.getLastD 0, asks.take got.length)) = _
      rw [last_zero hz.out, hst.out.len]
end Go.Proofs.QW
