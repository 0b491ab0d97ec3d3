/-
  Working a question out, in memory: what is asked is written down, and each question is asked (the closure of work). Condition: nested askings come to the model's.
-/
import Derived.Test.YtohpkolkagddiaaDoorQ4
import Derived.Test.YtohpkolkagddiaaDoorK5
namespace Go.Proofs.QW
open Go.RowKit Go.Proofs.KL Go.Proofs.QM
set_option maxRecDepth 100000
set_option linter.unusedSimpArgs false
set_option linter.unusedVariables false

/-- The blocks that an asking's facts speak of. -/
def FP (ab eb ib mb ob : Nat) (wv : Value) (X : Nat → Prop) : Nat → Prop := fun k => MSet ab ob mb wv k ∨ k = eb ∨ k = ib ∨ X k
theorem AskC.keepF {M : Nat → Prop} {w w' : World} {X : Nat → Prop} {ab eb ib mb ob : Nat} {E : Env} {s : PS} {wv : Value} (h : AskC w X ab eb ib mb ob E s wv) (hk : Keeps M w w') (hM : ∀ k, k < w.heap.size → M k → ¬ FP ab eb ib mb ob wv X k) : AskC w' X ab eb ib mb ob E s wv := by
  obtain ⟨⟨rv, c, hb, _⟩, ⟨cs, hib, _⟩, ⟨es, cl, hmb, _⟩, _, _, _⟩ := id h.eng
  obtain ⟨eo, co, ho⟩ := h.oblk
  exact ⟨hk.blk h.ablk (fun hm => hM _ (blk_lt h.ablk) hm (.inl (.inl rfl))), h.eng.keep hk (fun hm => hM _ (blk_lt hb) hm (.inr (.inl rfl))) (fun hm => hM _ (blk_lt hib) hm (.inr (.inr (.inl rfl)))) (fun hm => hM _ (blk_lt hmb) hm (.inl (.inr (.inr (.inl rfl))))) (fun b hb hx hm => hM b hb hm (.inr (.inr (.inr hx)))) (fun _ _ => Iff.rfl),
    ⟨eo, co, hk.blk ho (fun hm => hM _ (blk_lt ho) hm (.inl (.inr (.inl rfl))))⟩, ownsRow_keep h.own hk (fun b hb hm => hM b (own_lt h.own b hb).1 hm (.inl (.inr (.inr (.inr hb.symm))))), h.xa, h.xo, h.xw, h.mo, fun k hx => Nat.lt_of_lt_of_le (h.xl k hx) hk.size⟩
theorem AskPost.notF {w w' : World} {X X' : Nat → Prop} {ab eb ib mb ob : Nat} {E : Env} {s' : PS} {wv wv' : Value} (h : AskPost w X ab eb ib mb ob E wv s' w' X' wv') {b : Nat} (hb : b < w.heap.size) (hn : ¬ FP ab eb ib mb ob wv X b) : ¬ FP ab eb ib mb ob wv' X' b := by
  intro hf
  rcases hf with hf | hf | hf | hf
  · exact h.notM hb (fun hm => hn (.inl hm)) hf
  · exact hn (.inr (.inl hf))
  · exact hn (.inr (.inr (.inl hf)))
  · exact hn (.inr (.inr (.inr ((h.xx b hb).1 hf))))
/-- A working out as it lies: the asking, the kept result that is being made (block gk), and the row of what was asked. -/
structure WW (w : World) (X : Nat → Prop) (ab eb ib mb ob ga gk : Nat) (E : Env) (s : PS) (wv : Value) (asked : List Int) (av : Value) : Prop where
  core : AskC w X ab eb ib mb ob E s wv
  hga : w.heap[ga]? = some (.cells #[.pointer (some ⟨ab, 0, none⟩)] 86 (0, 0))
  hgk : w.heap[gk]? = some (.cells #[.int .i64 0, av, .int .i64 E.rev, .int .i64 E.rev] 85 (0, 0))
  own : w.ownsRow 0 3 1 av asked.length (asked.map (Value.int .i64))
  na : ¬ FP ab eb ib mb ob wv X ga
  nk : ¬ FP ab eb ib mb ob wv X gk
  nv : ∀ b, av.ownBlock = some b → ¬ FP ab eb ib mb ob wv X b
/-- What a part of a working out may have turned. -/
structure WT (w : World) (X : Nat → Prop) (ab ob mb gk : Nat) (wv av : Value) (w' : World) (X' : Nat → Prop) (wv' av' : Value) : Prop where
  xx : ∀ b, b < w.heap.size → (X' b ↔ X b)
  keep : Keeps (fun k => MSet ab ob mb wv k ∨ k = gk ∨ some k = av.ownBlock) w w'
  row : wv'.ownBlock = wv.ownBlock ∨ ∃ b, wv'.ownBlock = some b ∧ w.heap.size ≤ b
  rowa : av'.ownBlock = av.ownBlock ∨ ∃ b, av'.ownBlock = some b ∧ w.heap.size ≤ b
theorem WT.refl (w : World) (X : Nat → Prop) (ab ob mb gk : Nat) (wv av : Value) : WT w X ab ob mb gk wv av w X wv av := ⟨fun _ _ => Iff.rfl, Keeps.refl _ _, .inl rfl, .inl rfl⟩
theorem WT.trans {w w1 w2 : World} {X X1 X2 : Nat → Prop} {ab ob mb gk : Nat} {wv wv1 wv2 av av1 av2 : Value} (h : WT w X ab ob mb gk wv av w1 X1 wv1 av1) (k : WT w1 X1 ab ob mb gk wv1 av1 w2 X2 wv2 av2) : WT w X ab ob mb gk wv av w2 X2 wv2 av2 := by
  have hs := h.keep.size
  refine ⟨fun b hb => (k.xx b (Nat.lt_of_lt_of_le hb hs)).trans (h.xx b hb), h.keep.trans k.keep (fun i hi hm => ?_), ?_, ?_⟩
  · rcases hm with (h1 | h1 | h1 | h1) | h1 | h1
    · exact .inl (.inl h1)
    · exact .inl (.inr (.inl h1))
    · exact .inl (.inr (.inr (.inl h1)))
    · rcases h.row with hr | ⟨b, hb, hlt⟩
      · exact .inl (.inr (.inr (.inr (h1.trans hr))))
      · rw [hb] at h1; injection h1 with h1; omega
    · exact .inr (.inl h1)
    · rcases h.rowa with hr | ⟨b, hb, hlt⟩
      · exact .inr (.inr (h1.trans hr))
      · rw [hb] at h1; injection h1 with h1; omega
  · rcases k.row with hr | ⟨b, hb, hlt⟩
    · rw [hr]; exact h.row
    · exact .inr ⟨b, hb, by omega⟩
  · rcases k.rowa with hr | ⟨b, hb, hlt⟩
    · rw [hr]; exact h.rowa
    · exact .inr ⟨b, hb, by omega⟩
/-- What a call inside a working out comes to. -/
def Works (w : World) (X : Nat → Prop) (ab eb ib mb ob ga gk : Nat) (E : Env) (on : List Int) (wv av : Value) (asked : List Int) (r : PS × Except Int (Int × List Int)) (e : Ending) (w' : World) : Prop :=
  ∃ X' wv' av', WT w X ab ob mb gk wv av w' X' wv' av' ∧ AskC w' X' ab eb ib mb ob E r.1 wv' ∧
    match r.2 with
    | .ok (v, more) => WW w' X' ab eb ib mb ob ga gk E r.1 wv' (asked ++ more) av' ∧ OpenX w' ob on ∧ e = .returned (.int .i64 v)
    | .error c => e = .panicked [{ v := .iface 90 (.int .i64 c), recovered := false }]
/-- One asking inside a working out. -/
theorem WW.ask {w w' : World} {X X' : Nat → Prop} {ab eb ib mb ob ga gk : Nat} {E : Env} {s s' : PS} {wv wv' av : Value} {asked : List Int} (h : WW w X ab eb ib mb ob ga gk E s wv asked av) (hp : AskPost w X ab eb ib mb ob E wv s' w' X' wv') :
    WW w' X' ab eb ib mb ob ga gk E s' wv' asked av ∧ WT w X ab ob mb gk wv av w' X' wv' av :=
  ⟨⟨hp.core, hp.blk h.hga (fun hm => h.na (.inl hm)), hp.blk h.hgk (fun hm => h.nk (.inl hm)), ownsRow_keep h.own hp.keep (fun b hb hm => h.nv b hb (.inl hm)), hp.notF (blk_lt h.hga) h.na, hp.notF (blk_lt h.hgk) h.nk, fun b hb => hp.notF (own_lt h.own b hb).1 (h.nv b hb)⟩,
    ⟨hp.xx, hp.keep.mono (fun _ _ hm => .inl hm), hp.row, .inl rfl⟩⟩

theorem info3 : (Tryd.prog.info? 3).map (fun i => (i.zero, i.size, i.bytes)) = some (some (.int .i64 0), 1, 8) := by kernel_rfl
theorem info23 : ∃ i, Tryd.prog.info? 23 = some i ∧ i.size = 1 := by
  have h : (Tryd.prog.info? 23).map (·.size) = some 1 := by kernel_rfl
  obtain ⟨i, hi, hs⟩ := Option.map_eq_some_iff.1 h
  exact ⟨i, hi, hs⟩
theorem own_ne {w : World} {base e size n : Nat} {v : Value} {xs : List Value} (h : w.ownsRow base e size v n xs) {b t : Nat} {cs : Array Value} (hb : w.heap[b]? = some (.cells cs t (0, 0))) (ht : t ≠ e) : ¬ (some b = v.ownBlock) := by
  intro he
  obtain ⟨_, c', hc⟩ := own_lt h b he.symm
  rw [hb] at hc
  injection hc with hc
  injection hc with _ h2 _
  exact ht h2
/-- The question is written down: what the working out is then. -/
theorem WW.wrote {w w3 : World} {X : Nat → Prop} {ab eb ib mb ob ga gk : Nat} {E : Env} {s : PS} {wv av av' : Value} {asked : List Int} {q : Int} (h : WW w X ab eb ib mb ob ga gk E s wv asked av) (hk : Keeps (fun k => k = gk ∨ some k = av.ownBlock) w w3)
    (hb : w3.heap[gk]? = some (.cells #[.int .i64 0, av', .int .i64 E.rev, .int .i64 E.rev] 85 (0, 0))) (hown : w3.ownsRow 0 3 1 av' (asked.length + 1) (asked.map (Value.int .i64) ++ [.int .i64 q])) (hr : av'.ownBlock = av.ownBlock ∨ ∃ b, av'.ownBlock = some b ∧ w.heap.size ≤ b) : WW w3 X ab eb ib mb ob ga gk E s wv (asked ++ [q]) av' ∧ WT w X ab ob mb gk wv av w3 X wv av' := by
  have hc : ∀ k, k < w.heap.size → (k = gk ∨ some k = av.ownBlock) → ¬ FP ab eb ib mb ob wv X k := fun k _ hm => by
    rcases hm with rfl | hm
    · exact h.nk
    · exact h.nv k hm.symm
  have hga : ¬ (ga = gk ∨ some ga = av.ownBlock) := by
    rintro (e | e)
    · subst e
      have := h.hga.symm.trans h.hgk
      injection this with this
      injection this with _ h2 _
      exact absurd h2 (by decide)
    · exact own_ne h.own h.hga (by decide) e
  refine ⟨⟨h.core.keepF hk hc, hk.blk h.hga hga, hb, by simpa using hown, h.na, h.nk, fun b hb' => ?_⟩, ⟨fun _ _ => Iff.rfl, hk.mono (fun _ _ hm => .inr hm), .inl rfl, hr⟩⟩
  rcases hr with hr | ⟨b', hb2, hlt⟩
  · exact h.nv b (hr ▸ hb')
  · rw [hb2] at hb'; injection hb' with hb'; subst hb'
    intro hf
    obtain ⟨⟨rv, c, heb, _⟩, ⟨cs, hib, _⟩, _, _, _, _⟩ := id h.core.eng
    rcases hf with hf | hf | hf | hf
    · have := h.core.lt _ hf; omega
    · have := blk_lt heb; omega
    · have := blk_lt hib; omega
    · have := h.core.xl _ hf; omega
theorem field85_0 (a b c d : Value) (w : World) : (Instr.field 85 (.agg #[a, b, c, d]) 0).run Tryd.prog w = .ok a w := by kernel_rfl
/-- The closure of work: the question is written down, and asked. -/
theorem work1_any {E : Env} {on : List Int} {ask : AskFn} (IH : AskOK E on ask) (w : World) (X : Nat → Prop) (ab eb ib mb ob ga gk : Nat) (s : PS) (wv av : Value) (asked : List Int) (q : Int)
    (hw : WW w X ab eb ib mb ob ga gk E s wv asked av) (ho : OpenX w ob on) (hi : PInv E on s) (hq : InQ E q) (hl : asked.length ≤ 100) :
    Calls Tryd.prog 67 #[.int .i64 q, .pointer (some ⟨gk, 0, none⟩), .pointer (some ⟨ga, 0, none⟩)] w
      (Works w X ab eb ib mb ob ga gk E on wv av asked (match ask s q with | (s1, .error e) => (s1, .error e) | (s1, .ok (v, _)) => (s1, .ok (v, [q])))) := by
  generalize hRR : (match ask s q with | (s1, .error e) => (s1, .error e) | (s1, .ok (v, _)) => (s1, .ok (v, [q])) : PS × Except Int (Int × List Int)) = RR
  have HRR := Lib.hid hRR
  clear hRR
  obtain ⟨i23, hi23, hs23⟩ := info23
  have e1 := blk_cell hw.hgk 1
  simp only [List.getElem?_toArray, List.getElem?_cons_zero, List.getElem?_cons_succ] at e1
  have hnk := own_ne hw.own hw.hgk (by decide)
  have hna := own_ne hw.own hw.hga (by decide)
  have Hnk := Lib.hid hnk
  have Hna := Lib.hid hna
  clear hnk hna
  have Hw := Lib.hid hw
  have Ho := Lib.hid ho
  have Hi := Lib.hid hi
  have Hi23 := Lib.hid hi23
  have Hs23 := Lib.hid hs23
  clear hw ho hi hi23 hs23
  go_enter Tryd.func67, Tryd.ntmps67
  go_wp2_with (first
    | ((with_reducible refine at_dst (N := 8) rfl ?_); go_must (refine ev_slice (cs := #[.int .i64 q]) (t := 3) (n := 1) (c := 1) rfl (by first | (go_simp; done) | (go_simp; rfl)) ?_; intro g1 w1 hg1 hl1 hb1 hk1); have Hb1 := Lib.hid hb1; clear hb1; (try simp only [Act.put, List.setIfInBounds_toArray, List.set_cons_zero, List.set_cons_succ]))
    | ((with_reducible refine at_dst (N := 9) rfl ?_); go_must (refine ev_append rfl rfl Tryd.underlying23 info3 rfl (by decide) (base := 0) rfl (ownsRow_keep Hw.out.own hk1 (fun _ _ => id)) (news := [.int .i64 q]) rfl rfl (fun _ => ⟨_, rfl, World.news_of_block Hb1.out⟩) (by simp [Value.oneCell']) (by omega) (by decide) (Nat.zero_le _) ?_; intro av1 w2 hown2 hk2 hr2 hf2; obtain ⟨ag, acap, rfl⟩ := hf2 (by decide)); have Hown2 := Lib.hid hown2; have Hr2 := Lib.hid hr2; clear hown2 hf2 hr2; (try simp only [Act.put, List.setIfInBounds_toArray, List.set_cons_zero, List.set_cons_succ]))
    | ((with_reducible refine at_store (t := 23) rfl ?_); go_must (refine ev_store (cs' := #[.int .i64 0, .slice (some ⟨ag, 0, none⟩) (asked.length + 1) acap, .int .i64 E.rev, .int .i64 E.rev]) rfl rfl rfl rfl rfl rfl Hi23.out Hs23.out rfl (hk2.blk (hk1.blk Hw.out.hgk id) Hnk.out) (Nat.le_of_ble_eq_true rfl) rfl ?_; intro w3 hb3 hk3); have Hb3 := Lib.hid hb3; clear hb3
       have hkk : Keeps (fun k => k = gk ∨ some k = av.ownBlock) w w3 := ((hk1.mono (fun _ _ h => h.elim)).trans hk2 (fun _ _ h => .inr h)).trans hk3 (fun _ _ h => .inl h)
       have hww := Hw.out.wrote hkk Hb3.out (ownsRow_keep Hown2.out hk3 (fun b hb e => by subst e; exact own_ne Hown2.out (hk2.blk (hk1.blk Hw.out.hgk id) Hnk.out) (by decide) hb.symm)) (Hr2.out.imp id (fun ⟨b, h1, h2⟩ => ⟨b, h1, Nat.le_trans hk1.size h2⟩))
       have ea3 := (blk_cell hww.1.hga 0).trans rfl
       have ho3 : OpenX w3 ob on := Ho.out.keep hkk (fun hm => by
         rcases hm with rfl | hm
         · exact Hw.out.nk (.inl (.inr (.inl rfl)))
         · exact Hw.out.nv _ hm.symm (.inl (.inr (.inl rfl))))
       have Hww := Lib.hid hww
       have Ho3 := Lib.hid ho3
       clear hww hkk ho3))
  have hrun := IH w3 X ab eb ib mb ob s wv q Hww.out.1.core Ho3.out Hi.out hq
  rcases hr : ask s q with ⟨s1, r1⟩
  rw [hr] at hrun
  have Hr := Lib.hid hr
  clear hr
  cases r1 with
  | error x =>
    refine hrun.mono ?_
    rintro e w4 ⟨X', wv', hp', _, he⟩
    simp only [EndAs] at he
    subst he
    refine ⟨rfl, ?_⟩
    rw [← HRR.out, Hr.out]
    exact ⟨X', wv', _, Hww.out.2.trans (Hww.out.1.ask hp').2, hp'.core, rfl⟩
  | ok y =>
    obtain ⟨v, ch⟩ := y
    refine hrun.mono ?_
    rintro e w4 ⟨X', wv', hp', ho', he⟩
    simp only [EndAs, KeptV] at he
    obtain ⟨_, ⟨u, ck, rfl, _⟩, rfl⟩ := he
    have hf := field85_0
    go_wp2
    go_ret
    rw [← HRR.out, Hr.out]
    exact ⟨X', wv', _, Hww.out.2.trans (Hww.out.1.ask hp').2, hp'.core, (Hww.out.1.ask hp').1, ho' _ rfl, rfl⟩
end Go.Proofs.QW
