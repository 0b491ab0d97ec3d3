/-
  A question worked out, in memory (work): what answer comes to, kept with what it asked. Condition: nested askings come to the model's.
-/
import Derived.Test.YtohpkolkagddiaaDoorPlays1
import Derived.Defers
import Derived.Recover
namespace Go.Proofs.QW
open Go.RowKit Go.Proofs.KL Go.Proofs.QM
set_option maxRecDepth 100000
set_option linter.unusedSimpArgs false
set_option linter.unusedVariables false

theorem answer_any {E : Env} {on : List Int} {ask : AskFn} (IH : AskOK E on ask) (hG : QM.Good E on ask) (w : World) (X : Nat → Prop) (ab eb ib mb ob ga gk : Nat) (s : PS) (wv av asv : Value) (r : QRule)
    (hw : WW w X ab eb ib mb ob ga gk E s wv [] av) (ho : OpenX w ob on) (hi : PInv E on s) (hr : ROk E.rules.length r) (hk : r.kind ≠ 1) (hx : IntsX w X asv r.asks) :
    Calls Tryd.prog 66 #[.agg #[.int .i64 r.kind, .int .i64 r.n, asv], .func (.func 67) #[] #[.pointer (some ⟨gk, 0, none⟩), .pointer (some ⟨ga, 0, none⟩)]] w
      (Works w X ab eb ib mb ob ga gk E on wv av [] (evalR ask s r)) := by
  obtain ⟨kind, n, asks⟩ := r
  obtain ⟨k1, k2, n1, n2, l12, l1, l2, ha⟩ := id hr
  dsimp only at *
  have hkk : kind = 2 ∨ kind = 3 ∨ kind = 4 ∨ kind = 5 ∨ kind = 6 := by omega
  rcases hkk with rfl | rfl | rfl | rfl | rfl
  · simp [bnds] at n1 n2
    exact answer_sum IH hG w X ab eb ib mb ob ga gk s wv av asv n asks hw ho hi ha hx (by omega) n1 n2
  · simp [bnds] at l1
    exact answer_pick IH hG w X ab eb ib mb ob ga gk s wv av asv n asks hw ho hi hr hx (by omega) (by omega)
  · exact answer_first IH hG w X ab eb ib mb ob ga gk s wv av asv n asks hw ho hi ha hx (by omega)
  · simp [bnds] at l1 l2
    obtain ⟨q0, q1, rfl⟩ : ∃ q0 q1, asks = [q0, q1] := by
      match asks, l1, l2 with
      | [a, b], _, _ => exact ⟨a, b, rfl⟩
      | [], h, _ => exact absurd h (by simp)
      | [_], h, _ => exact absurd h (by simp)
      | _ :: _ :: _ :: _, _, h => simp at h; omega
    exact answer_less IH hG w X ab eb ib mb ob ga gk s wv av asv n q0 q1 hw ho hi (ha q0 (by simp)) (ha q1 (by simp)) hx
  · simp [bnds] at l1 l2 n1 n2
    obtain ⟨q0, rfl⟩ : ∃ q0, asks = [q0] := by
      match asks, l1, l2 with
      | [a], _, _ => exact ⟨a, rfl⟩
      | [], h, _ => exact absurd h (by simp)
      | _ :: _ :: _, _, h => simp at h; omega
    exact answer_step IH hG w X ab eb ib mb ob ga gk s wv av asv n q0 hw ho hi (ha q0 (by simp)) hx n1 n2
theorem AskC.cells {w : World} {X : Nat → Prop} {ab eb ib mb ob : Nat} {E : Env} {s : PS} {wv : Value} (h : AskC w X ab eb ib mb ob E s wv) :
    w.cell? ⟨ab, 0, none⟩ = some (.pointer (some ⟨eb, 0, none⟩)) ∧ w.cell? ⟨ab, 1, none⟩ = some (.map (some ob)) ∧ w.cell? ⟨ab, 2, none⟩ = some wv ∧ w.cell? ⟨ab, 3, none⟩ = some (.int .i64 E.most) :=
  ⟨(blk_cell h.ablk 0).trans rfl, (blk_cell h.ablk 1).trans rfl, (blk_cell h.ablk 2).trans rfl, (blk_cell h.ablk 3).trans rfl⟩
theorem EngAt.cells {w : World} {X : Nat → Prop} {eb ib mb : Nat} {E : Env} {ans : List (Option KeptR)} (h : EngAt w X eb ib mb E ans) :
    ∃ A c c', w.cell? ⟨eb, 0, none⟩ = some (.slice A E.rules.length c) ∧ w.cell? ⟨eb, 1, none⟩ = some (.slice (some ⟨ib, 0, none⟩) E.rules.length c') ∧ w.cell? ⟨eb, 2, none⟩ = some (.map (some mb)) ∧ w.cell? ⟨eb, 3, none⟩ = some (.int .i64 E.rev) ∧ RulesX w X (.slice A E.rules.length c) E.rules := by
  obtain ⟨rv, c', hb, hr⟩ := h.blk
  obtain ⟨A, c, rfl, _, _⟩ := id hr
  exact ⟨A, c, c', (blk_cell hb 0).trans rfl, (blk_cell hb 1).trans rfl, (blk_cell hb 2).trans rfl, (blk_cell hb 3).trans rfl, hr⟩
theorem RulesX.cellAt {w : World} {X : Nat → Prop} {A : Option Addr} {n c : Nat} {rs : List QRule} (h : RulesX w X (.slice A n c) rs) {k : Nat} (hk : k < rs.length) : ∃ b o u, A = some ⟨b, o, none⟩ ∧ w.cell? ⟨b, o + k * 3, none⟩ = some (.int .i64 (rs.getD k default).kind) ∧
    w.cell? ⟨b, o + k * 3 + 1, none⟩ = some (.int .i64 (rs.getD k default).n) ∧ w.cell? ⟨b, o + k * 3 + 2, none⟩ = some u ∧ IntsX w X u (rs.getD k default).asks := by
  obtain ⟨A', c', h1, _, h3⟩ := h
  injection h1 with h1 _ _
  subst h1
  obtain ⟨b, o, u, h4, _, h5, h6, h7, h8⟩ := h3 k hk
  exact ⟨b, o, u, h4, h5, h6, h7, h8⟩
theorem zero3 : (Tryd.prog.info? 3).map (·.zero) = some (some (.int .i64 0)) := by kernel_rfl
theorem AskC.newF {w : World} {X : Nat → Prop} {ab eb ib mb ob : Nat} {E : Env} {s : PS} {wv : Value} (h : AskC w X ab eb ib mb ob E s wv) {g : Nat} (hg : w.heap.size ≤ g) : ¬ FP ab eb ib mb ob wv X g := by
  intro hf
  obtain ⟨⟨rv, c, heb, _⟩, ⟨cs, hib, _⟩, _, _, _, _⟩ := id h.eng
  rcases hf with hf | hf | hf | hf
  · have := h.lt _ hf; omega
  · have := blk_lt heb; omega
  · have := blk_lt hib; omega
  · have := h.xl _ hf; omega
theorem AskPost.ofWT {w w5 w6 : World} {X X' : Nat → Prop} {ab eb ib mb ob g9 : Nat} {E : Env} {s1 : PS} {wv wv' av av' : Value} (hk : Keeps Nob w w5) (ht : WT w5 X ab ob mb g9 wv av w6 X' wv' av') (hg : w.heap.size ≤ g9) (hav : av.ownBlock = none) (hc : AskC w6 X' ab eb ib mb ob E s1 wv') :
    AskPost w X ab eb ib mb ob E wv s1 w6 X' wv' := by
  have hs := hk.size
  refine ⟨fun b hb => ht.xx b (by omega), hk.mono (fun _ _ h => h.elim) |>.trans ht.keep (fun i hi hm => ?_), ht.row.imp id (fun ⟨b, h1, h2⟩ => ⟨b, h1, by omega⟩), hc⟩
  rcases hm with hm | hm | hm
  · exact hm
  · omega
  · rw [hav] at hm; cases hm
theorem own_slice {w : World} {base e size n : Nat} {v : Value} {xs : List Value} (h : w.ownsRow base e size v n xs) : ∃ A c, v = .slice A n c := by
  rcases h.2 with ⟨rfl, rfl⟩ | ⟨g, cap, cur, rfl, _⟩
  · exact ⟨none, 0, rfl⟩
  · exact ⟨_, cap, rfl⟩
theorem AskC.wrote {w w3 : World} {X : Nat → Prop} {ab eb ib mb ob : Nat} {E : Env} {s : PS} {wv wv2 : Value} {q : Int} (h : AskC w X ab eb ib mb ob E s wv) (hk : Keeps (fun k => k = ab ∨ some k = wv.ownBlock) w w3)
    (hb : w3.heap[ab]? = some (.cells #[.pointer (some ⟨eb, 0, none⟩), .map (some ob), wv2, .int .i64 E.most] 89 (0, 0))) (hown : w3.ownsRow 0 3 1 wv2 (s.done.length + 1) (s.done.map (Value.int .i64) ++ [.int .i64 q]))
    (hr : wv2.ownBlock = wv.ownBlock ∨ ∃ b, wv2.ownBlock = some b ∧ w.heap.size ≤ b) : AskPost w X ab eb ib mb ob E wv { s with done := s.done ++ [q] } w3 X wv2 := by
  obtain ⟨⟨rv, c, heb, _⟩, ⟨cs, hib, _⟩, ⟨es, cl, hmb, _⟩, _, _, _⟩ := id h.eng
  obtain ⟨eo, co, ho⟩ := h.oblk
  have hne : ∀ {b t : Nat} {cs : Array Value}, w.heap[b]? = some (.cells cs t (0, 0)) → t ≠ 89 → t ≠ 3 → ¬ (b = ab ∨ some b = wv.ownBlock) := fun {b t cs} hq h1 h2 hm => by
    rcases hm with hm | hm
    · rw [hm] at hq
      have := hq.symm.trans h.ablk
      injection this with this
      injection this with _ h3 _
      exact h1 h3
    · exact own_ne h.own hq h2 hm
  have hnm : ∀ {b : Nat} {es : Array MapEntry} {c : Nat}, w.heap[b]? = some (.map es c) → ¬ (b = ab ∨ some b = wv.ownBlock) := fun {b es c} hq hm => by
    rcases hm with hm | hm
    · rw [hm] at hq
      have := hq.symm.trans h.ablk; injection this with this; cases this
    · obtain ⟨_, cs, hc⟩ := own_lt h.own b hm.symm
      have := hq.symm.trans hc; injection this with this; cases this
  refine ⟨fun _ _ => Iff.rfl, hk.mono (fun i _ hm => ?_), hr, hb, h.eng.keep hk (hne heb (by decide) (by decide)) (hne hib (by decide) (by decide)) (hnm hmb) (fun b _ hx hm => ?_) (fun _ _ => Iff.rfl), ⟨eo, co, hk.blk ho (hnm ho)⟩, by simpa using hown, h.xa, h.xo, fun b hb' => ?_, h.mo, fun k hx => Nat.lt_of_lt_of_le (h.xl k hx) hk.size⟩
  · rcases hm with rfl | hm
    · exact .inl rfl
    · exact .inr (.inr (.inr hm))
  · rcases hm with rfl | hm
    · exact h.xa hx
    · exact h.xw b hm.symm hx
  · rcases hr with hr | ⟨b', hb2, hlt⟩
    · exact h.xw b (hr ▸ hb')
    · rw [hb2] at hb'; injection hb' with hb'; subst hb'
      intro hx; have := h.xl _ hx; omega
theorem AskC.mapFar {w : World} {X : Nat → Prop} {ab eb ib mb ob : Nat} {E : Env} {s : PS} {wv : Value} (h : AskC w X ab eb ib mb ob E s wv) {b : Nat} {es : Array MapEntry} {c : Nat} (hq : w.heap[b]? = some (.map es c)) : ¬ (b = ab ∨ some b = wv.ownBlock) := by
  intro hm
  rcases hm with hm | hm
  · rw [hm] at hq
    have := hq.symm.trans h.ablk; injection this with this; cases this
  · obtain ⟨_, cs, hc⟩ := own_lt h.own b hm.symm
    have := hq.symm.trans hc; injection this with this; cases this
theorem AskC.widen {w : World} {X Y : Nat → Prop} {ab eb ib mb ob : Nat} {E : Env} {s : PS} {wv : Value} (h : AskC w X ab eb ib mb ob E s wv) (hY : ∀ k, Y k → k < w.heap.size ∧ ¬ FP ab eb ib mb ob wv X k) : AskC w (fun k => X k ∨ Y k) ab eb ib mb ob E s wv := by
  obtain ⟨⟨rv, c, heb, hrx⟩, hinp, hans, xe, xi, xm⟩ := id h.eng
  refine ⟨h.ablk, ⟨⟨rv, c, heb, hrx.keep (Keeps.refl Nob w) (fun _ _ _ => id) (fun _ _ => .inl)⟩, hinp, hans.keep (Keeps.refl Nob w) id (fun _ _ _ => id) (fun _ _ => .inl), ?_, ?_, ?_⟩, h.oblk, h.own, ?_, ?_, ?_, h.mo, ?_⟩
  · rintro (hx | hx)
    · exact xe hx
    · exact (hY _ hx).2 (.inr (.inl rfl))
  · rintro (hx | hx)
    · exact xi hx
    · exact (hY _ hx).2 (.inr (.inr (.inl rfl)))
  · rintro (hx | hx)
    · exact xm hx
    · exact (hY _ hx).2 (.inl (.inr (.inr (.inl rfl))))
  · rintro (hx | hx)
    · exact h.xa hx
    · exact (hY _ hx).2 (.inl (.inl rfl))
  · rintro (hx | hx)
    · exact h.xo hx
    · exact (hY _ hx).2 (.inl (.inr (.inl rfl)))
  · intro b hb
    rintro (hx | hx)
    · exact h.xw b hb hx
    · exact (hY _ hx).2 (.inl (.inr (.inr (.inr hb.symm))))
  · rintro k (hx | hx)
    · exact h.xl k hx
    · exact (hY _ hx).1
theorem IntsX.own {w : World} {av : Value} {xs : List Int} (h : w.ownsRow 0 3 1 av xs.length (xs.map (Value.int .i64))) (X : Nat → Prop) (hX : ∀ k, some k = av.ownBlock → X k) : IntsX w X av xs := by
  rcases h.2 with ⟨rfl, hn⟩ | ⟨g, cap, cur, rfl, _, hg, hc, _, hs, ht⟩
  · exact ⟨none, 0, by rw [hn], by omega, fun i hi => by omega⟩
  · refine ⟨_, cap, rfl, hc, fun i hi => ⟨g, 0, rfl, hX g rfl, ?_⟩⟩
    rw [blk_cell hg]
    have : (cur.toList.take (xs.length * 1))[i]? = some (.int .i64 (xs.getD i 0)) := by
      rw [ht, List.getElem?_map, List.getElem?_eq_getElem hi, List.getD_eq_getElem?_getD, List.getElem?_eq_getElem hi]; rfl
    rw [List.getElem?_take] at this
    rw [if_pos (by omega)] at this
    simpa using this
theorem ev_quiet {P : Program} {ops : Array Oper} {rest : List Oper} {o : Oper} {a : Act} {Q : Exit → Act → World → Prop} {W : World} {v : Value} (hgd : o.guard = none) (hrun : (execOp a.eval o).run P W = .ok (.value v) W) (h : wpList P ops Q rest (a.put o.dst v) W) : wpList P ops Q (o :: rest) a W :=
  ev_run hgd hrun h
theorem results_cell1 {fn : Func} {p : Tmp} {ty : TypeId} (h : fn.results = #[.cell p ty]) (tmps : Array Value) (P : Program) (w : World) : (results fn tmps).run P w = (do loadVar ty (← asAddr (tmps.getD p undef))).run P w := by
  simp [results, h]
theorem infoS3 : ∃ i, Tryd.prog.info? 3 = some i ∧ i.size = 1 := by
  have h : (Tryd.prog.info? 3).map (·.size) = some 1 := by kernel_rfl
  obtain ⟨i, hi, hs⟩ := Option.map_eq_some_iff.1 h
  exact ⟨i, hi, hs⟩
/-- What work comes to. -/
def WorkPost (w : World) (X : Nat → Prop) (ab eb ib mb ob : Nat) (E : Env) (on : List Int) (wv : Value) (q : Int) (was : Option KeptR) (r : PS × Except Int (Int × List Int)) (e : Ending) (w' : World) : Prop :=
  match r with
  | (s1, .error c) => ∃ X' wv', AskPost w X ab eb ib mb ob E wv s1 w' X' wv' ∧ e = .panicked [{ v := .iface 90 (.int .i64 c), recovered := false }]
  | (s1, .ok (v, asked)) =>
    if E.most ≤ s1.done.length then ∃ X' wv', AskPost w X ab eb ib mb ob E wv s1 w' X' wv' ∧ e = .panicked [{ v := .iface 90 (.int .i64 13), recovered := false }]
    else ∃ X' wv' u, AskPost w X ab eb ib mb ob E wv { s1 with done := s1.done ++ [q] } w' X' wv' ∧ OpenX w' ob on ∧ IntsX w' X' u asked ∧ e = .returned (.agg #[.int .i64 v, u, .int .i64 E.rev, .int .i64 (chOf E.rev was v)])
set_option maxHeartbeats 1000000 in
theorem work_any {E : Env} {on : List Int} {ask : AskFn} (hE : EnvOk E) (IH : AskOK E on ask) (hG : QM.Good E on ask) (w : World) (X : Nat → Prop) (ab eb ib mb ob : Nat) (s : PS) (wv : Value) (q : Int) (was : Option KeptR) (uA : Option Addr) (ul uc : Nat)
    (hc : AskC w X ab eb ib mb ob E s wv) (ho : OpenX w ob on) (hi : PInv E on s) (hq : InQ E q) (hk : (E.rule q).kind ≠ 1) :
    Calls Tryd.prog 57 #[.pointer (some ⟨ab, 0, none⟩), .int .i64 q, .agg #[.int .i64 (was.getD k0).value, .slice uA ul uc, .int .i64 (was.getD k0).checked, .int .i64 (was.getD k0).changed], .bool was.isSome] w
      (WorkPost w X ab eb ib mb ob E on wv q was (evalR ask s (E.rule q))) := by
  obtain ⟨i85, hi85, hs85⟩ := info85
  obtain ⟨i23, hi23, hs23⟩ := info23
  have Hi23 := Lib.hid hi23
  have Hs23 := Lib.hid hs23
  clear hi23 hs23
  have h200 := hE.len
  obtain ⟨i3, hi3, hs3⟩ := infoS3
  have Hi3 := Lib.hid hi3
  have Hs3 := Lib.hid hs3
  clear hi3 hs3
  obtain ⟨a0, a1, a2, a3⟩ := hc.cells
  obtain ⟨A, cc, cc', b0, b1, b2, b3, hrx⟩ := hc.eng.cells
  obtain ⟨qn, rfl⟩ := Int.eq_ofNat_of_zero_le hq.1
  have hqn : qn < E.rules.length := by have := hq.2; omega
  obtain ⟨rb, ro, ru, rfl, r0, r1, r2, hru⟩ := hrx.cellAt hqn
  rw [getD_rule] at r0 r1 hru
  have lab := World.block_lt_of_cell? _ _ a0
  have leb := World.block_lt_of_cell? _ _ b0
  have lrb := World.block_lt_of_cell? _ _ r0
  dsimp only at lab leb lrb
  have hro := hE.rok _ (rule_mem hq)
  generalize hrr : E.rule (qn : Int) = r at *
  generalize hRR : evalR ask s r = RR
  obtain ⟨wk, hwk⟩ : ∃ k, was.getD k0 = k := ⟨_, rfl⟩
  obtain ⟨hd, hhd⟩ : ∃ b, was.isSome = b := ⟨_, rfl⟩
  rw [hwk, hhd]
  obtain ⟨uA', uc', rfl, _, _⟩ := id hru
  generalize hal : r.asks.length = al at *
  have Hal := Lib.hid hal
  have Hrr := Lib.hid hrr
  have Hwk := Lib.hid hwk
  have Hhd := Lib.hid hhd
  have HRR := Lib.hid hRR
  have Hrx := Lib.hid hrx
  have Hru := Lib.hid hru
  have Hc := Lib.hid hc
  have Ho := Lib.hid ho
  have Hi := Lib.hid hi
  have Hi85 := Lib.hid hi85
  have Hs85 := Lib.hid hs85
  clear hrr hwk hhd hRR hrx hru hc ho hi hi85 hs85 hal
  go_enter Tryd.func57, Tryd.ntmps57
  go_wp2_with (first
    | ((with_reducible refine at_dst (N := 4) rfl ?_); go_must (refine ev_box (cs := #[.pointer (some ⟨ab, 0, none⟩)]) rfl rfl rfl ?_; intro g4 w1 hg4 hl4 hb4 hk4); have Hb4 := Lib.hid hb4; clear hb4; (try simp only [Act.put, List.setIfInBounds_toArray, List.set_cons_zero, List.set_cons_succ]))
    | ((with_reducible refine at_dst (N := 6) rfl ?_); go_must (refine ev_box (cs := #[.int .i64 wk.value, .slice uA ul uc, .int .i64 wk.checked, .int .i64 wk.changed]) rfl rfl rfl ?_; intro g6 w2 hg6 hl6 hb6 hk6); have Hb6 := Lib.hid hb6; clear hb6; (try simp only [Act.put, List.setIfInBounds_toArray, List.set_cons_zero, List.set_cons_succ]))
    | ((with_reducible refine at_dst (N := 8) rfl ?_); go_must (refine ev_alloc rfl rfl zero85 rfl ?_; intro g8 w3 hg8 hl8 hb8 hk8); have Hb8 := Lib.hid hb8; clear hb8; (try simp only [Act.put, List.setIfInBounds_toArray, List.set_cons_zero, List.set_cons_succ])))
  have hk03 : Keeps Nob w w3 := (hk4.trans hk6 (fun _ _ h => h)).trans hk8 (fun _ _ h => h)
  have HK := Lib.hid hk03
  have hb4' := hk8.blk (hk6.blk Hb4.out id) id
  have hb6' := hk8.blk Hb6.out id
  have Hb4' := Lib.hid hb4'
  have Hb6' := Lib.hid hb6'
  have s1 := hk4.size
  have s2 := hk6.size
  have s3 := hk8.size
  have f40 := (blk_cell Hb4'.out 0).trans rfl
  have ca := hk03.cells0 ab 0 lab
  have cb := hk03.cells0 eb 3 leb
  rw [a0] at ca
  rw [b3] at cb
  clear hk4 hk6 hk8 hk03 hb4' hb6' Hb4 Hb6
  refine wp_region_perm [(0, true), (1, true), (2, true), (3, true), (4, true), (5, true), (6, true), (7, true), (8, true), (9, true), (10, true), (11, true), (12, true), (13, true), (14, true), (15, false), (16, false)] (fun w' => w'.cell? ⟨g4, 0, none⟩ = some (.pointer (some ⟨ab, 0, none⟩)) ∧ w'.cell? ⟨ab, 0, none⟩ = some (.pointer (some ⟨eb, 0, none⟩)) ∧ w'.cell? ⟨eb, 3, none⟩ = some (.int .i64 E.rev)) rfl (by kernel_rfl) (by kernel_rfl) (by decide) (fun c a d v w h => by cases d <;> exact h) ⟨f40, ca, cb⟩ ?_
  refine perm_q (v := ?v1_0) (some 10) rfl rfl rfl ?q1_0 ?h1_0; (case q1_0 => (intro w' hS; obtain ⟨s1, s2, s3⟩ := hS; first | (go_simp; done) | (go_simp; rfl))); (try simp only [Act.put, List.setIfInBounds_toArray, List.set_cons_zero, List.set_cons_succ])
  refine perm_q (v := ?v1_1) (some 11) rfl rfl rfl ?q1_1 ?h1_1; (case q1_1 => (intro w' hS; obtain ⟨s1, s2, s3⟩ := hS; first | (go_simp; done) | (go_simp; rfl))); (try simp only [Act.put, List.setIfInBounds_toArray, List.set_cons_zero, List.set_cons_succ])
  refine perm_q (v := ?v1_2) (some 12) rfl rfl rfl ?q1_2 ?h1_2; (case q1_2 => (intro w' hS; obtain ⟨s1, s2, s3⟩ := hS; first | (go_simp; done) | (go_simp; rfl))); (try simp only [Act.put, List.setIfInBounds_toArray, List.set_cons_zero, List.set_cons_succ])
  refine perm_q (v := ?v1_3) (some 13) rfl rfl rfl ?q1_3 ?h1_3; (case q1_3 => (intro w' hS; obtain ⟨s1, s2, s3⟩ := hS; first | (go_simp; done) | (go_simp; rfl))); (try simp only [Act.put, List.setIfInBounds_toArray, List.set_cons_zero, List.set_cons_succ])
  refine perm_q (v := ?v1_4) (some 14) rfl rfl rfl ?q1_4 ?h1_4; (case q1_4 => (intro w' hS; obtain ⟨s1, s2, s3⟩ := hS; first | (go_simp; done) | (go_simp; rfl))); (try simp only [Act.put, List.setIfInBounds_toArray, List.set_cons_zero, List.set_cons_succ])
  refine perm_q (v := ?v1_5) (some 15) rfl rfl rfl ?q1_5 ?h1_5; (case q1_5 => (intro w' hS; obtain ⟨s1, s2, s3⟩ := hS; first | (go_simp; done) | (go_simp; rfl))); (try simp only [Act.put, List.setIfInBounds_toArray, List.set_cons_zero, List.set_cons_succ])
  refine perm_q (v := ?v1_6) (some 16) rfl rfl rfl ?q1_6 ?h1_6; (case q1_6 => (intro w' hS; obtain ⟨s1, s2, s3⟩ := hS; first | (go_simp; done) | (go_simp; rfl))); (try simp only [Act.put, List.setIfInBounds_toArray, List.set_cons_zero, List.set_cons_succ])
  refine perm_q (v := ?v1_7) (some 17) rfl rfl rfl ?q1_7 ?h1_7; (case q1_7 => (intro w' hS; obtain ⟨s1, s2, s3⟩ := hS; first | (go_simp; done) | (go_simp; rfl))); (try simp only [Act.put, List.setIfInBounds_toArray, List.set_cons_zero, List.set_cons_succ])
  refine perm_q (v := ?v1_8) (some 18) rfl rfl rfl ?q1_8 ?h1_8; (case q1_8 => (intro w' hS; obtain ⟨s1, s2, s3⟩ := hS; first | (go_simp; done) | (go_simp; rfl))); (try simp only [Act.put, List.setIfInBounds_toArray, List.set_cons_zero, List.set_cons_succ])
  refine perm_q (v := ?v1_9) (some 19) rfl rfl rfl ?q1_9 ?h1_9; (case q1_9 => (intro w' hS; obtain ⟨s1, s2, s3⟩ := hS; first | (go_simp; done) | (go_simp; rfl))); (try simp only [Act.put, List.setIfInBounds_toArray, List.set_cons_zero, List.set_cons_succ])
  refine perm_q (v := ?v1_10) (some 20) rfl rfl rfl ?q1_10 ?h1_10; (case q1_10 => (intro w' hS; obtain ⟨s1, s2, s3⟩ := hS; first | (go_simp; done) | (go_simp; rfl))); (try simp only [Act.put, List.setIfInBounds_toArray, List.set_cons_zero, List.set_cons_succ])
  refine perm_q (v := ?v1_11) (some 21) rfl rfl rfl ?q1_11 ?h1_11; (case q1_11 => (intro w' hS; obtain ⟨s1, s2, s3⟩ := hS; first | (go_simp; done) | (go_simp; rfl))); (try simp only [Act.put, List.setIfInBounds_toArray, List.set_cons_zero, List.set_cons_succ])
  refine perm_q (v := ?v1_12) (some 22) rfl rfl rfl ?q1_12 ?h1_12; (case q1_12 => (intro w' hS; obtain ⟨s1, s2, s3⟩ := hS; first | (go_simp; done) | (go_simp; rfl))); (try simp only [Act.put, List.setIfInBounds_toArray, List.set_cons_zero, List.set_cons_succ])
  refine perm_q (v := ?v1_13) (some 23) rfl rfl rfl ?q1_13 ?h1_13; (case q1_13 => (intro w' hS; obtain ⟨s1, s2, s3⟩ := hS; first | (go_simp; done) | (go_simp; rfl))); (try simp only [Act.put, List.setIfInBounds_toArray, List.set_cons_zero, List.set_cons_succ])
  refine perm_q (v := ?v1_14) (some 24) rfl rfl rfl ?q1_14 ?h1_14; (case q1_14 => (intro w' hS; obtain ⟨s1, s2, s3⟩ := hS; first | (go_simp; done) | (go_simp; rfl))); (try simp only [Act.put, List.setIfInBounds_toArray, List.set_cons_zero, List.set_cons_succ])
  refine perm_e rfl ?_   -- 15: alloc 85
  go_must (refine ev_alloc rfl rfl zero85 rfl ?_; intro g9 w4 hg9 hl9 hb9 hk9)
  (try simp only [Act.put, List.setIfInBounds_toArray, List.set_cons_zero, List.set_cons_succ])
  refine wpList_nil ⟨⟨hk9.cell (w := w3.drew) f40 id, hk9.cell (w := w3.drew) ca id, hk9.cell (w := w3.drew) cb id⟩, ?_⟩
  have Hb9 := Lib.hid hb9
  clear hb9
  refine perm_e rfl ?_   -- 16: store 85 t9 t24
  go_must (refine ev_store (cs' := #[.int .i64 0, .slice none 0 0, .int .i64 E.rev, .int .i64 E.rev]) rfl rfl rfl rfl rfl rfl Hi85.out Hs85.out rfl Hb9.out (Nat.le_of_ble_eq_true rfl) rfl ?_; intro w5 hb5 hk5)
  refine wpList_nil ⟨⟨hk5.cell (hk9.cell (w := w3.drew) f40 id) (by show g4 ≠ g9; have := hg9; simp at this; omega), hk5.cell (hk9.cell (w := w3.drew) ca id) (by show ab ≠ g9; have := hg9; simp at this; omega), hk5.cell (hk9.cell (w := w3.drew) cb id) (by show eb ≠ g9; have := hg9; simp at this; omega)⟩, ?_⟩
  refine perm_nil ?_
  have hg9' : w3.heap.size ≤ g9 := hg9
  have hk05 : Keeps Nob w w5 := (HK.out.drew.then hk9).own hk5 (by omega)
  have hb4'' := hk5.blk (hk9.blk (w := w3.drew) Hb4'.out id) (by show g4 ≠ g9; omega)
  have hb6'' := hk5.blk (hk9.blk (w := w3.drew) Hb6'.out id) (by show g6 ≠ g9; omega)
  have hb8'' := hk5.blk (hk9.blk (w := w3.drew) Hb8.out id) (by show g8 ≠ g9; omega)
  have n4 := Hc.out.newF (g := g4) hg4
  have n6 := Hc.out.newF (g := g6) (by omega)
  have n8 := Hc.out.newF (g := g8) (by omega)
  have n9 := Hc.out.newF (g := g9) (by omega)
  have hww : WW w5 X ab eb ib mb ob g4 g9 E s wv [] (.slice none 0 0) := ⟨Hc.out.keep hk05 (fun _ _ h => h), hb4'', hb5, ⟨rfl, .inl ⟨rfl, rfl⟩⟩, n4, n9, fun b hb => by cases hb⟩
  have hrun := answer_any IH hG w5 X ab eb ib mb ob g4 g9 s wv (.slice none 0 0) (.slice uA' al uc') r hww (Ho.out.keep hk05 id) Hi.out hro hk (Hru.out.keep hk05 (fun _ _ _ => id) (fun _ _ h => h))
  rw [HRR.out] at hrun
  have hstep := evalR_good hE hG hro Hi.out
  rw [HRR.out] at hstep
  obtain ⟨s9, r9⟩ := RR
  have d4 := (blk_cell hb4'' 0).trans rfl
  have d0 := hk05.cell a0 id
  have d3 := hk05.cell b0 id
  have e0 := hk05.cell r0 id
  have e1 := hk05.cell r1 id
  have e2 := hk05.cell r2 id
  have lw : w.heap.size ≤ w5.heap.size := hk05.size
  have HK5 := Lib.hid hk05
  have Hb4'' := Lib.hid hb4''
  have Hb6'' := Lib.hid hb6''
  have Hb8'' := Lib.hid hb8''
  have N4 := Lib.hid n4
  have N6 := Lib.hid n6
  have N8 := Lib.hid n8
  have N9 := Lib.hid n9
  have Hww := Lib.hid hww
  have Hrun := Lib.hid hrun
  have Hstep := Lib.hid hstep
  clear hk05 hb4'' hb6'' hb8'' n4 n6 n8 n9 hww hrun hstep hb5 hk5 hk9 a0 a1 a2 a3 b0 b1 b2 b3 r0 r1 r2 f40 ca cb Hb9 HK Hb4' Hb6' Hb8
  cases r9 with
  | error c =>
    go_wp2_with (go_at_call 66; go_must (refine Hrun.out.mono ?_; rintro e w6 ⟨X', wv', av', ht, hcc, he⟩; dsimp only at he; subst he))
    refine ⟨rfl, X', wv', AskPost.ofWT HK5.out ht (by omega) rfl hcc, rfl⟩
  | ok y =>
    obtain ⟨v, asked⟩ := y
    go_wp2_with (first
      | (go_at_call 66; go_must (refine Hrun.out.mono ?_; rintro e w6 ⟨X', wv', av', ht, hcc, hw6, ho6, he⟩; subst he); have HT := Lib.hid ht; have HC := Lib.hid hcc; have HW := Lib.hid hw6; have HO := Lib.hid ho6; clear ht hcc hw6 ho6; (try simp only [Act.put, List.setIfInBounds_toArray, List.set_cons_zero, List.set_cons_succ]))
      | ((with_reducible refine at_store (t := 3) rfl ?_); go_must (refine ev_store (cs' := #[.int .i64 v, av', .int .i64 E.rev, .int .i64 E.rev]) rfl rfl rfl rfl rfl rfl Hi3.out Hs3.out rfl HW.out.hgk (Nat.le_of_ble_eq_true rfl) rfl ?_; intro w7 hb7 hk7); have Hb7 := Lib.hid hb7; clear hb7; (try simp only [Act.put, List.setIfInBounds_toArray, List.set_cons_zero, List.set_cons_succ])))
    have hcc7 := HC.out.keepF hk7 (fun k _ e => by subst e; exact HW.out.nk)
    have hg94 : g4 ≠ g9 := by omega
    have hb47 := hk7.blk HW.out.hga hg94
    have hb67 := hk7.blk (HT.out.blk Hb6''.out (fun h => N6.out (.inl h)) (by omega) (by simp [Value.ownBlock])) (by show g6 ≠ g9; omega)
    have hb87 := hk7.blk (HT.out.blk Hb8''.out (fun h => N8.out (.inl h)) (by omega) (by simp [Value.ownBlock])) (by show g8 ≠ g9; omega)
    have hav7 : w7.ownsRow 0 3 1 av' asked.length (asked.map (Value.int .i64)) := ownsRow_keep HW.out.own hk7 (fun b hb e => by subst e; exact own_ne HW.out.own HW.out.hgk (by decide) hb.symm)
    have ho7 : OpenX w7 ob on := HO.out.keep hk7 (fun e => HW.out.nk (.inl (.inr (.inl e.symm))))
    have hdl : ((s9.done.length : Nat) : Int) ≤ E.most := Hstep.out.1.inv.dmost
    obtain ⟨wA, wc, rfl⟩ := own_slice hcc7.own
    obtain ⟨f0, f1, f2, f3⟩ := hcc7.cells
    have f4 := (blk_cell hb47 0).trans rfl
    have d7 := Hstep.out.1.inv.dlen
    have Hcc7 := Lib.hid hcc7
    have Hb47 := Lib.hid hb47
    have Hb67 := Lib.hid hb67
    have Hb87 := Lib.hid hb87
    have Hav7 := Lib.hid hav7
    have Ho7 := Lib.hid ho7
    have Hk7 := Lib.hid hk7
    generalize hdn : s9.done.length = dn at *
    have Hdn := Lib.hid hdn
    clear hcc7 hb47 hb67 hb87 hav7 ho7 hk7 d0 d3 d4 e0 e1 e2 hdn
    refine wp_region_perm [(0, true), (1, true), (2, true), (3, true), (4, true), (5, true), (6, true), (7, true), (8, true), (9, true)] (fun w' => w'.cell? ⟨g4, 0, none⟩ = some (.pointer (some ⟨ab, 0, none⟩)) ∧ w'.cell? ⟨ab, 2, none⟩ = some (.slice wA dn wc) ∧ w'.cell? ⟨ab, 3, none⟩ = some (.int .i64 E.most)) rfl (by kernel_rfl) (by kernel_rfl) (by decide) (fun c a d v w h => by cases d <;> exact h) ⟨f4, f2, f3⟩ ?_
    refine perm_q (v := ?v2_0) (some 38) rfl rfl rfl ?q2_0 ?h2_0; (case q2_0 => (intro w' hS; obtain ⟨s1, s2, s3⟩ := hS; first | (go_simp; done) | (go_simp; rfl))); (try simp only [Act.put, List.setIfInBounds_toArray, List.set_cons_zero, List.set_cons_succ])
    refine perm_q (v := ?v2_1) (some 39) rfl rfl rfl ?q2_1 ?h2_1; (case q2_1 => (intro w' hS; obtain ⟨s1, s2, s3⟩ := hS; first | (go_simp; done) | (go_simp; rfl))); (try simp only [Act.put, List.setIfInBounds_toArray, List.set_cons_zero, List.set_cons_succ])
    refine perm_q (v := ?v2_2) (some 40) rfl rfl rfl ?q2_2 ?h2_2; (case q2_2 => (intro w' hS; obtain ⟨s1, s2, s3⟩ := hS; first | (go_simp; done) | (go_simp; rfl))); (try simp only [Act.put, List.setIfInBounds_toArray, List.set_cons_zero, List.set_cons_succ])
    refine perm_q (v := ?v2_3) (some 41) rfl rfl rfl ?q2_3 ?h2_3; (case q2_3 => (intro w' hS; obtain ⟨s1, s2, s3⟩ := hS; first | (go_simp; done) | (go_simp; rfl))); (try simp only [Act.put, List.setIfInBounds_toArray, List.set_cons_zero, List.set_cons_succ])
    refine perm_q (v := ?v2_4) (some 42) rfl rfl rfl ?q2_4 ?h2_4; (case q2_4 => (intro w' hS; obtain ⟨s1, s2, s3⟩ := hS; first | (go_simp; done) | (go_simp; rfl))); (try simp only [Act.put, List.setIfInBounds_toArray, List.set_cons_zero, List.set_cons_succ])
    refine perm_q (v := ?v2_5) (some 43) rfl rfl rfl ?q2_5 ?h2_5; (case q2_5 => (intro w' hS; obtain ⟨s1, s2, s3⟩ := hS; first | (go_simp; done) | (go_simp; rfl))); (try simp only [Act.put, List.setIfInBounds_toArray, List.set_cons_zero, List.set_cons_succ])
    refine perm_q (v := ?v2_6) (some 44) rfl rfl rfl ?q2_6 ?h2_6; (case q2_6 => (intro w' hS; obtain ⟨s1, s2, s3⟩ := hS; first | (go_simp; done) | (go_simp; rfl))); (try simp only [Act.put, List.setIfInBounds_toArray, List.set_cons_zero, List.set_cons_succ])
    refine perm_q (v := ?v2_7) (some 45) rfl rfl rfl ?q2_7 ?h2_7; (case q2_7 => (intro w' hS; obtain ⟨s1, s2, s3⟩ := hS; first | (go_simp; done) | (go_simp; rfl))); (try simp only [Act.put, List.setIfInBounds_toArray, List.set_cons_zero, List.set_cons_succ])
    refine perm_q (v := ?v2_8) (some 46) rfl rfl rfl ?q2_8 ?h2_8; (case q2_8 => (intro w' hS; obtain ⟨s1, s2, s3⟩ := hS; first | (go_simp; done) | (go_simp; rfl))); (try simp only [Act.put, List.setIfInBounds_toArray, List.set_cons_zero, List.set_cons_succ])
    refine perm_q (v := ?v2_9) (some 47) rfl rfl rfl ?q2_9 ?h2_9; (case q2_9 => (intro w' hS; obtain ⟨s1, s2, s3⟩ := hS; first | (go_simp; done) | (go_simp; rfl))); (try simp only [Act.put, List.setIfInBounds_toArray, List.set_cons_zero, List.set_cons_succ])
    refine perm_nil ?_
    by_cases hm : E.most ≤ dn
    · have hbm : ((dn : Int) == E.most) = true := by simp; omega
      go_wp2
      refine ⟨rfl, ?_⟩
      unfold WorkPost
      dsimp only
      rw [if_pos (by rw [Hdn.out]; exact hm)]
      exact ⟨X', _, (AskPost.ofWT HK5.out HT.out (by omega) rfl HC.out).then (Hk7.out.drew (M := (· = g9))) (fun i _ e => by omega) (Hcc7.out.keep (Keeps.refl Nob w7).drew (fun _ _ h => h)), rfl⟩
    · have hbm : ((dn : Int) == E.most) = false := by simp; omega
      have g60 := (blk_cell Hb67.out 0).trans rfl
      have g63 := (blk_cell Hb67.out 3).trans rfl
      have g90 := (blk_cell Hb7.out 0).trans rfl
      have lab7 := blk_lt Hcc7.out.ablk
      have hch : chOf E.rev was v = if hd = true ∧ wk.value = v then wk.changed else E.rev := by
        rw [← Hhd.out, ← Hwk.out]
        cases was <;> simp [chOf]
      obtain ⟨ch, hchd⟩ : ∃ ch, chOf E.rev was v = ch := ⟨_, rfl⟩
      rw [hchd] at hch
      have Hch := Lib.hid hch
      have Hchd := Lib.hid hchd
      clear hch hchd
      by_cases hve : hd = true ∧ wk.value = v
      · obtain ⟨rfl, hve⟩ := hve
        have hbe : (wk.value == v) = true := by simp [hve]
        have hce : ch = wk.changed := by rw [Hch.out, if_pos ⟨rfl, hve⟩]
        have Hce := Lib.hid hce
        clear hce
        go_wp2_with ((with_reducible refine at_store (t := 3) rfl ?_); go_must (refine ev_store (cs' := #[.int .i64 v, av', .int .i64 E.rev, .int .i64 wk.changed]) rfl rfl rfl rfl rfl rfl Hi3.out Hs3.out rfl Hb7.out (Nat.le_of_ble_eq_true rfl) rfl ?_; intro w8 hb8 hk8; rw [← Hce.out] at hb8); have Hb8 := Lib.hid hb8; clear hb8; (try simp only [Act.put, List.setIfInBounds_toArray, List.set_cons_zero, List.set_cons_succ]))
        have Hk78 := Lib.hid ((Keeps.refl (· = g9) w7).drew.trans hk8 (fun _ _ h => h))
        clear hk8 hve hbe
        have hcc8 := Hcc7.out.keepF Hk78.out (fun k _ e => by subst e; exact HW.out.nk)
        obtain ⟨f0, f1, f2, f3⟩ := hcc8.cells
        have hb48 := Hk78.out.blk Hb47.out (by show g4 ≠ g9; omega)
        have f4 := (blk_cell hb48 0).trans rfl
        have hb88 := Hk78.out.blk Hb87.out (by show g8 ≠ g9; omega)
        have hav8 := ownsRow_keep Hav7.out Hk78.out (fun b hb e => by subst e; exact own_ne Hav7.out Hb7.out (by decide) hb.symm)
        have ho8 := Ho7.out.keep Hk78.out (fun e => HW.out.nk (.inl (.inr (.inl e.symm))))
        obtain ⟨aA, ac, rfl⟩ := own_slice hav8
        have Hcc8 := Lib.hid hcc8
        have Hb48 := Lib.hid hb48
        have Hb88 := Lib.hid hb88
        have Hav8 := Lib.hid hav8
        have Ho8 := Lib.hid ho8
        clear hcc8 hb48 hb88 hav8 ho8
        refine wp_region_tree (.q 0 (.q 1 (.q 2 (.q 3 (.q 5 (.br [4, 6] (fun k => bif Nat.beq k 4 then .br [6] (fun k => .br [7] (fun k => .q 8 (.q 9 (.br [10] (fun k => .done))))) else .br [4] (fun k => .br [7] (fun k => .q 8 (.q 9 (.br [10] (fun k => .done)))))))))))) (fun w' => w'.cell? ⟨g4, 0, none⟩ = some (.pointer (some ⟨ab, 0, none⟩))) rfl (by kernel_rfl) (by kernel_rfl) (fun c a d v w h => by cases d <;> exact h) f4 ?_
        refine tree_q (v := ?v3_11) (some 60) rfl rfl rfl ?q3_11 ?h3_11; (case q3_11 => (intro w' hS; have s1 := hS; first | (go_simp; done) | (go_simp; rfl))); (try simp only [Act.put, List.setIfInBounds_toArray, List.set_cons_zero, List.set_cons_succ])
        refine tree_q (v := ?v3_10) (some 61) rfl rfl rfl ?q3_10 ?h3_10; (case q3_10 => (intro w' hS; have s1 := hS; first | (go_simp; done) | (go_simp; rfl))); (try simp only [Act.put, List.setIfInBounds_toArray, List.set_cons_zero, List.set_cons_succ])
        refine tree_q (v := ?v3_9) (some 62) rfl rfl rfl ?q3_9 ?h3_9; (case q3_9 => (intro w' hS; have s1 := hS; first | (go_simp; done) | (go_simp; rfl))); (try simp only [Act.put, List.setIfInBounds_toArray, List.set_cons_zero, List.set_cons_succ])
        refine tree_q (v := ?v3_8) (some 63) rfl rfl rfl ?q3_8 ?h3_8; (case q3_8 => (intro w' hS; have s1 := hS; first | (go_simp; done) | (go_simp; rfl))); (try simp only [Act.put, List.setIfInBounds_toArray, List.set_cons_zero, List.set_cons_succ])
        refine tree_q (v := ?v3_7) (some 65) rfl rfl rfl ?q3_7 ?h3_7; (case q3_7 => (intro w' hS; have s1 := hS; first | (go_simp; done) | (go_simp; rfl))); (try simp only [Act.put, List.setIfInBounds_toArray, List.set_cons_zero, List.set_cons_succ])
        refine tree_b rfl rfl ?b3_3 ?nb3_3
        case' b3_3 =>   -- 4: load 23 t63
          refine ev_quiet (v := .slice wA dn wc) rfl (by first | (go_simp; done) | (go_simp; rfl)) ?_
          (try simp only [Act.put, List.setIfInBounds_toArray, List.set_cons_zero, List.set_cons_succ])
          refine wpList_nil ⟨f4, ?_⟩
          refine tree_e rfl rfl ?_   -- 6: buildSlice 23 1 [(0, t65)]
          go_must (refine ev_slice (cs := #[.int .i64 qn]) (t := 3) (n := 1) (c := 1) rfl (by first | (go_simp; done) | (go_simp; rfl)) ?_; intro g10 w10 hg10 hl10 hb10 hk10)
          (try simp only [Act.put, List.setIfInBounds_toArray, List.set_cons_zero, List.set_cons_succ])
          have f2 := hk10.cell (w := w8.drew) f2 id
          have f4 := hk10.cell (w := w8.drew) f4 id
          have Hb10 := Lib.hid hb10
          clear hb10
          refine wpList_nil ⟨f4, ?_⟩
          refine tree_e rfl rfl ?_   -- 7: call append(t64, t66) :#[23, 23]
          go_must (refine ev_append rfl rfl Tryd.underlying23 info3 rfl (by decide) (base := 0) rfl (ownsRow_keep Hcc8.out.own ((Keeps.refl Nob w8).drew.then hk10) (fun _ _ => id)) (news := [.int .i64 qn]) rfl rfl (fun _ => ⟨_, rfl, World.news_of_block Hb10.out⟩) (by simp [Value.oneCell']) (by have := Hdn.out; omega) (by decide) (Nat.zero_le _) ?_; intro av1 w11 hown11 hk11 hr11 hf11; obtain ⟨ag, acap, rfl⟩ := hf11 (by decide))
          have Hown11 := Lib.hid hown11
          have Hr11 := Lib.hid hr11
          clear hown11 hf11 hr11
          (try simp only [Act.put, List.setIfInBounds_toArray, List.set_cons_zero, List.set_cons_succ])
          have f4 := hk11.cell f4 (own_ne Hcc8.out.own Hb48.out (by decide))
          refine wpList_nil ⟨f4, ?_⟩
          refine tree_q (v := ?v3_2) (some 68) rfl rfl rfl ?q3_2 ?h3_2; (case q3_2 => (intro w' hS; have s1 := hS; first | (go_simp; done) | (go_simp; rfl))); (try simp only [Act.put, List.setIfInBounds_toArray, List.set_cons_zero, List.set_cons_succ])
          refine tree_q (v := ?v3_1) (some 69) rfl rfl rfl ?q3_1 ?h3_1; (case q3_1 => (intro w' hS; have s1 := hS; first | (go_simp; done) | (go_simp; rfl))); (try simp only [Act.put, List.setIfInBounds_toArray, List.set_cons_zero, List.set_cons_succ])
          refine tree_e rfl rfl ?_   -- 10: store 23 t69 t67
          go_must (refine ev_store (cs' := #[.pointer (some ⟨eb, 0, none⟩), .map (some ob), .slice (some ⟨ag, 0, none⟩) (s9.done.length + 1) acap, .int .i64 E.most]) rfl rfl rfl rfl rfl rfl Hi23.out Hs23.out rfl (hk11.blk (hk10.blk (w := w8.drew) Hcc8.out.ablk id) (own_ne Hcc8.out.own Hcc8.out.ablk (by decide))) (Nat.le_of_ble_eq_true rfl) rfl ?_; intro w12 hb12 hk12)
          refine wpList_nil ⟨hk12.cell f4 (by show g4 ≠ ab; omega), ?_⟩
          refine tree_nil ?_
        case' nb3_3 =>
          refine tree_e rfl rfl ?b3_6
          case' b3_6 =>   -- 6: buildSlice 23 1 [(0, t65)]
            go_must (refine ev_slice (cs := #[.int .i64 qn]) (t := 3) (n := 1) (c := 1) rfl (by first | (go_simp; done) | (go_simp; rfl)) ?_; intro g10 w10 hg10 hl10 hb10 hk10)
            (try simp only [Act.put, List.setIfInBounds_toArray, List.set_cons_zero, List.set_cons_succ])
            have f2 := hk10.cell (w := w8.drew) f2 id
            have f4 := hk10.cell (w := w8.drew) f4 id
            have Hb10 := Lib.hid hb10
            clear hb10
            refine wpList_nil ⟨f4, ?_⟩
            refine tree_e rfl rfl ?_   -- 4: load 23 t63
            refine ev_quiet (v := .slice wA dn wc) rfl (by first | (go_simp; done) | (go_simp; rfl)) ?_
            (try simp only [Act.put, List.setIfInBounds_toArray, List.set_cons_zero, List.set_cons_succ])
            refine wpList_nil ⟨f4, ?_⟩
            refine tree_e rfl rfl ?_   -- 7: call append(t64, t66) :#[23, 23]
            go_must (refine ev_append rfl rfl Tryd.underlying23 info3 rfl (by decide) (base := 0) rfl (ownsRow_keep Hcc8.out.own ((Keeps.refl Nob w8).drew.then hk10) (fun _ _ => id)) (news := [.int .i64 qn]) rfl rfl (fun _ => ⟨_, rfl, World.news_of_block Hb10.out⟩) (by simp [Value.oneCell']) (by have := Hdn.out; omega) (by decide) (Nat.zero_le _) ?_; intro av1 w11 hown11 hk11 hr11 hf11; obtain ⟨ag, acap, rfl⟩ := hf11 (by decide))
            have Hown11 := Lib.hid hown11
            have Hr11 := Lib.hid hr11
            clear hown11 hf11 hr11
            (try simp only [Act.put, List.setIfInBounds_toArray, List.set_cons_zero, List.set_cons_succ])
            have f4 := hk11.cell f4 (own_ne Hcc8.out.own Hb48.out (by decide))
            refine wpList_nil ⟨f4, ?_⟩
            refine tree_q (v := ?v3_5) (some 68) rfl rfl rfl ?q3_5 ?h3_5; (case q3_5 => (intro w' hS; have s1 := hS; first | (go_simp; done) | (go_simp; rfl))); (try simp only [Act.put, List.setIfInBounds_toArray, List.set_cons_zero, List.set_cons_succ])
            refine tree_q (v := ?v3_4) (some 69) rfl rfl rfl ?q3_4 ?h3_4; (case q3_4 => (intro w' hS; have s1 := hS; first | (go_simp; done) | (go_simp; rfl))); (try simp only [Act.put, List.setIfInBounds_toArray, List.set_cons_zero, List.set_cons_succ])
            refine tree_e rfl rfl ?_   -- 10: store 23 t69 t67
            go_must (refine ev_store (cs' := #[.pointer (some ⟨eb, 0, none⟩), .map (some ob), .slice (some ⟨ag, 0, none⟩) (s9.done.length + 1) acap, .int .i64 E.most]) rfl rfl rfl rfl rfl rfl Hi23.out Hs23.out rfl (hk11.blk (hk10.blk (w := w8.drew) Hcc8.out.ablk id) (own_ne Hcc8.out.own Hcc8.out.ablk (by decide))) (Nat.le_of_ble_eq_true rfl) rfl ?_; intro w12 hb12 hk12)
            refine wpList_nil ⟨hk12.cell f4 (by show g4 ≠ ab; omega), ?_⟩
            refine tree_nil ?_
        all_goals
          skip
          have hkr := ((((Keeps.refl Nob w8).drew.then hk10).mono (M' := fun k => k = ab ∨ some k = Value.ownBlock (.slice wA dn wc)) (fun _ _ h => h.elim)).trans hk11 (fun _ _ h => .inr h)).trans hk12 (fun _ _ h => .inl h)
          have hp12 := Hcc8.out.wrote (q := (qn : Int)) (w3 := w12) hkr hb12 (ownsRow_keep Hown11.out hk12 (fun b hb e => by subst e; exact own_ne Hown11.out (hk11.blk (hk10.blk (w := w8.drew) Hcc8.out.ablk id) (own_ne Hcc8.out.own Hcc8.out.ablk (by decide))) (by decide) hb.symm)) (Hr11.out.imp id (fun ⟨b, h1, h2⟩ => ⟨b, h1, Nat.le_trans hk10.size h2⟩))
          have ho12 : OpenX w12 ob on := by
            obtain ⟨es, c, hm1, _⟩ := id Ho8.out
            exact Ho8.out.keep hkr (Hcc8.out.mapFar hm1)
          have hb9w := hp12.blk Hb8.out (fun h => HW.out.nk (.inl h))
          have lg8 := blk_lt Hb8''.out
          have hfar : Far w6 ab ob mb g9 (.slice wA dn wc) (.slice aA asked.length ac) g8 := Far.step ⟨lg8, fun h => N8.out (.inl h), by omega, by simp [Value.ownBlock]⟩ HT.out
          have nf8 : ¬ FP ab eb ib mb ob (.slice wA dn wc) X' g8 := by
            rintro (h | h | h | h)
            · exact hfar.h1 h
            · exact N8.out (.inr (.inl h))
            · exact N8.out (.inr (.inr (.inl h)))
            · exact N8.out (.inr (.inr (.inr ((HT.out.xx g8 lg8).1 h))))
          have nf8' := hp12.notF (blk_lt Hb88.out) nf8
          have hb8w := hp12.blk Hb88.out (fun h => nf8 (.inl h))
          have c0 := (blk_cell hb9w 0).trans rfl
          have c1 := (blk_cell hb9w 1).trans rfl
          have c2 := (blk_cell hb9w 2).trans rfl
          have c3 := (blk_cell hb9w 3).trans rfl
          have Hb8w := Lib.hid hb8w
          have Hp12 := Lib.hid hp12
          have Ho12 := Lib.hid ho12
          have Nf8 := Lib.hid nf8
          have Nf8' := Lib.hid nf8'
          clear hkr hp12 ho12 hb9w hfar nf8 nf8' hb8w f0 f1 f2 f3 f4 hk10 hk11 hk12 hb12
          go_wp2_with ((with_reducible refine at_store (t := 85) rfl ?_); go_must (refine ev_store (cs' := #[.int .i64 v, .slice aA asked.length ac, .int .i64 E.rev, .int .i64 ch]) rfl rfl rfl rfl rfl rfl Hi85.out Hs85.out rfl Hb8w.out (Nat.le_of_ble_eq_true rfl) rfl ?_; intro w13 hb13 hk13); (try simp only [Act.put, List.setIfInBounds_toArray, List.set_cons_zero, List.set_cons_succ]))
          have q0 := (blk_cell hb13 0).trans rfl
          have q1 := (blk_cell hb13 1).trans rfl
          have q2 := (blk_cell hb13 2).trans rfl
          have q3 := (blk_cell hb13 3).trans rfl
          refine bodyPost_ret (v := .agg #[.int .i64 v, .slice aA asked.length ac, .int .i64 E.rev, .int .i64 ch]) (by rw [results_cell1 rfl]; go_simp) rfl ?_
          unfold WorkPost
          dsimp only
          rw [if_neg (by rw [Hdn.out]; omega), Hchd.out]
          have hc13 := Hp12.out.core.keepF hk13 (fun k _ e => by subst e; exact Nf8'.out)
          have ha4 := (((AskPost.ofWT HK5.out HT.out (by omega) rfl HC.out).then (M := (· = g9)) (Hk7.out.trans Hk78.out (fun _ _ h => h)) (fun i _ e => by omega) Hcc8.out).trans Hp12.out).then hk13 (fun i _ e => by omega) hc13
          have hav12 := ownsRow_keep Hav8.out Hp12.out.keep (fun b hb h => HW.out.nv b hb (.inl h))
          have hav13 := ownsRow_keep hav12 hk13 (fun b hb e => by subst e; exact own_ne hav12 Hb8w.out (by decide) hb.symm)
          have hoo := Ho12.out.keep hk13 (fun e => Nf8.out (.inl (.inr (.inl e.symm))))
          refine ⟨fun k => X' k ∨ some k = Value.ownBlock (.slice aA asked.length ac), _, _, ⟨fun b hb => ⟨fun h => ?_, fun h => .inl ((ha4.xx b hb).2 h)⟩, ha4.keep, ha4.row, hc13.widen (fun k hk => ⟨(own_lt hav13 k hk.symm).1, Hp12.out.notF (own_lt Hav8.out k hk.symm).1 (HW.out.nv k hk.symm)⟩)⟩, hoo, IntsX.own hav13 _ (fun k hk => .inr hk), rfl⟩
          rcases h with h | h
          · exact (ha4.xx b hb).1 h
          · rcases HT.out.rowa with hr | ⟨b', hr, hlt⟩
            · rw [hr] at h; cases h
            · rw [hr] at h; injection h with h; omega
      · have hce : ch = E.rev := by rw [Hch.out, if_neg hve]
        cases hd with
        | true =>
          have hbe : (wk.value == v) = false := by simpa using hve
          go_wp2
          obtain ⟨w8, hw8⟩ : ∃ w8, w7.drew = w8 := ⟨_, rfl⟩
          have Hb8 := Lib.hid (show w8.heap[g9]? = some (.cells #[.int .i64 v, av', .int .i64 E.rev, .int .i64 ch] 85 (0, 0)) by rw [hce, ← hw8]; exact Hb7.out)
          have Hk78 := Lib.hid (show Keeps (· = g9) w7 w8 by rw [← hw8]; exact (Keeps.refl (· = g9) w7).drew)
          rw [hw8]
          clear hw8 hce hve hbe
          have hcc8 := Hcc7.out.keepF Hk78.out (fun k _ e => by subst e; exact HW.out.nk)
          obtain ⟨f0, f1, f2, f3⟩ := hcc8.cells
          have hb48 := Hk78.out.blk Hb47.out (by show g4 ≠ g9; omega)
          have f4 := (blk_cell hb48 0).trans rfl
          have hb88 := Hk78.out.blk Hb87.out (by show g8 ≠ g9; omega)
          have hav8 := ownsRow_keep Hav7.out Hk78.out (fun b hb e => by subst e; exact own_ne Hav7.out Hb7.out (by decide) hb.symm)
          have ho8 := Ho7.out.keep Hk78.out (fun e => HW.out.nk (.inl (.inr (.inl e.symm))))
          obtain ⟨aA, ac, rfl⟩ := own_slice hav8
          have Hcc8 := Lib.hid hcc8
          have Hb48 := Lib.hid hb48
          have Hb88 := Lib.hid hb88
          have Hav8 := Lib.hid hav8
          have Ho8 := Lib.hid ho8
          clear hcc8 hb48 hb88 hav8 ho8
          refine wp_region_tree (.q 0 (.q 1 (.q 2 (.q 3 (.q 5 (.br [4, 6] (fun k => bif Nat.beq k 4 then .br [6] (fun k => .br [7] (fun k => .q 8 (.q 9 (.br [10] (fun k => .done))))) else .br [4] (fun k => .br [7] (fun k => .q 8 (.q 9 (.br [10] (fun k => .done)))))))))))) (fun w' => w'.cell? ⟨g4, 0, none⟩ = some (.pointer (some ⟨ab, 0, none⟩))) rfl (by kernel_rfl) (by kernel_rfl) (fun c a d v w h => by cases d <;> exact h) f4 ?_
          refine tree_q (v := ?v4_11) (some 60) rfl rfl rfl ?q4_11 ?h4_11; (case q4_11 => (intro w' hS; have s1 := hS; first | (go_simp; done) | (go_simp; rfl))); (try simp only [Act.put, List.setIfInBounds_toArray, List.set_cons_zero, List.set_cons_succ])
          refine tree_q (v := ?v4_10) (some 61) rfl rfl rfl ?q4_10 ?h4_10; (case q4_10 => (intro w' hS; have s1 := hS; first | (go_simp; done) | (go_simp; rfl))); (try simp only [Act.put, List.setIfInBounds_toArray, List.set_cons_zero, List.set_cons_succ])
          refine tree_q (v := ?v4_9) (some 62) rfl rfl rfl ?q4_9 ?h4_9; (case q4_9 => (intro w' hS; have s1 := hS; first | (go_simp; done) | (go_simp; rfl))); (try simp only [Act.put, List.setIfInBounds_toArray, List.set_cons_zero, List.set_cons_succ])
          refine tree_q (v := ?v4_8) (some 63) rfl rfl rfl ?q4_8 ?h4_8; (case q4_8 => (intro w' hS; have s1 := hS; first | (go_simp; done) | (go_simp; rfl))); (try simp only [Act.put, List.setIfInBounds_toArray, List.set_cons_zero, List.set_cons_succ])
          refine tree_q (v := ?v4_7) (some 65) rfl rfl rfl ?q4_7 ?h4_7; (case q4_7 => (intro w' hS; have s1 := hS; first | (go_simp; done) | (go_simp; rfl))); (try simp only [Act.put, List.setIfInBounds_toArray, List.set_cons_zero, List.set_cons_succ])
          refine tree_b rfl rfl ?b4_3 ?nb4_3
          case' b4_3 =>   -- 4: load 23 t63
            refine ev_quiet (v := .slice wA dn wc) rfl (by first | (go_simp; done) | (go_simp; rfl)) ?_
            (try simp only [Act.put, List.setIfInBounds_toArray, List.set_cons_zero, List.set_cons_succ])
            refine wpList_nil ⟨f4, ?_⟩
            refine tree_e rfl rfl ?_   -- 6: buildSlice 23 1 [(0, t65)]
            go_must (refine ev_slice (cs := #[.int .i64 qn]) (t := 3) (n := 1) (c := 1) rfl (by first | (go_simp; done) | (go_simp; rfl)) ?_; intro g10 w10 hg10 hl10 hb10 hk10)
            (try simp only [Act.put, List.setIfInBounds_toArray, List.set_cons_zero, List.set_cons_succ])
            have f2 := hk10.cell (w := w8.drew) f2 id
            have f4 := hk10.cell (w := w8.drew) f4 id
            have Hb10 := Lib.hid hb10
            clear hb10
            refine wpList_nil ⟨f4, ?_⟩
            refine tree_e rfl rfl ?_   -- 7: call append(t64, t66) :#[23, 23]
            go_must (refine ev_append rfl rfl Tryd.underlying23 info3 rfl (by decide) (base := 0) rfl (ownsRow_keep Hcc8.out.own ((Keeps.refl Nob w8).drew.then hk10) (fun _ _ => id)) (news := [.int .i64 qn]) rfl rfl (fun _ => ⟨_, rfl, World.news_of_block Hb10.out⟩) (by simp [Value.oneCell']) (by have := Hdn.out; omega) (by decide) (Nat.zero_le _) ?_; intro av1 w11 hown11 hk11 hr11 hf11; obtain ⟨ag, acap, rfl⟩ := hf11 (by decide))
            have Hown11 := Lib.hid hown11
            have Hr11 := Lib.hid hr11
            clear hown11 hf11 hr11
            (try simp only [Act.put, List.setIfInBounds_toArray, List.set_cons_zero, List.set_cons_succ])
            have f4 := hk11.cell f4 (own_ne Hcc8.out.own Hb48.out (by decide))
            refine wpList_nil ⟨f4, ?_⟩
            refine tree_q (v := ?v4_2) (some 68) rfl rfl rfl ?q4_2 ?h4_2; (case q4_2 => (intro w' hS; have s1 := hS; first | (go_simp; done) | (go_simp; rfl))); (try simp only [Act.put, List.setIfInBounds_toArray, List.set_cons_zero, List.set_cons_succ])
            refine tree_q (v := ?v4_1) (some 69) rfl rfl rfl ?q4_1 ?h4_1; (case q4_1 => (intro w' hS; have s1 := hS; first | (go_simp; done) | (go_simp; rfl))); (try simp only [Act.put, List.setIfInBounds_toArray, List.set_cons_zero, List.set_cons_succ])
            refine tree_e rfl rfl ?_   -- 10: store 23 t69 t67
            go_must (refine ev_store (cs' := #[.pointer (some ⟨eb, 0, none⟩), .map (some ob), .slice (some ⟨ag, 0, none⟩) (s9.done.length + 1) acap, .int .i64 E.most]) rfl rfl rfl rfl rfl rfl Hi23.out Hs23.out rfl (hk11.blk (hk10.blk (w := w8.drew) Hcc8.out.ablk id) (own_ne Hcc8.out.own Hcc8.out.ablk (by decide))) (Nat.le_of_ble_eq_true rfl) rfl ?_; intro w12 hb12 hk12)
            refine wpList_nil ⟨hk12.cell f4 (by show g4 ≠ ab; omega), ?_⟩
            refine tree_nil ?_
          case' nb4_3 =>
            refine tree_e rfl rfl ?b4_6
            case' b4_6 =>   -- 6: buildSlice 23 1 [(0, t65)]
              go_must (refine ev_slice (cs := #[.int .i64 qn]) (t := 3) (n := 1) (c := 1) rfl (by first | (go_simp; done) | (go_simp; rfl)) ?_; intro g10 w10 hg10 hl10 hb10 hk10)
              (try simp only [Act.put, List.setIfInBounds_toArray, List.set_cons_zero, List.set_cons_succ])
              have f2 := hk10.cell (w := w8.drew) f2 id
              have f4 := hk10.cell (w := w8.drew) f4 id
              have Hb10 := Lib.hid hb10
              clear hb10
              refine wpList_nil ⟨f4, ?_⟩
              refine tree_e rfl rfl ?_   -- 4: load 23 t63
              refine ev_quiet (v := .slice wA dn wc) rfl (by first | (go_simp; done) | (go_simp; rfl)) ?_
              (try simp only [Act.put, List.setIfInBounds_toArray, List.set_cons_zero, List.set_cons_succ])
              refine wpList_nil ⟨f4, ?_⟩
              refine tree_e rfl rfl ?_   -- 7: call append(t64, t66) :#[23, 23]
              go_must (refine ev_append rfl rfl Tryd.underlying23 info3 rfl (by decide) (base := 0) rfl (ownsRow_keep Hcc8.out.own ((Keeps.refl Nob w8).drew.then hk10) (fun _ _ => id)) (news := [.int .i64 qn]) rfl rfl (fun _ => ⟨_, rfl, World.news_of_block Hb10.out⟩) (by simp [Value.oneCell']) (by have := Hdn.out; omega) (by decide) (Nat.zero_le _) ?_; intro av1 w11 hown11 hk11 hr11 hf11; obtain ⟨ag, acap, rfl⟩ := hf11 (by decide))
              have Hown11 := Lib.hid hown11
              have Hr11 := Lib.hid hr11
              clear hown11 hf11 hr11
              (try simp only [Act.put, List.setIfInBounds_toArray, List.set_cons_zero, List.set_cons_succ])
              have f4 := hk11.cell f4 (own_ne Hcc8.out.own Hb48.out (by decide))
              refine wpList_nil ⟨f4, ?_⟩
              refine tree_q (v := ?v4_5) (some 68) rfl rfl rfl ?q4_5 ?h4_5; (case q4_5 => (intro w' hS; have s1 := hS; first | (go_simp; done) | (go_simp; rfl))); (try simp only [Act.put, List.setIfInBounds_toArray, List.set_cons_zero, List.set_cons_succ])
              refine tree_q (v := ?v4_4) (some 69) rfl rfl rfl ?q4_4 ?h4_4; (case q4_4 => (intro w' hS; have s1 := hS; first | (go_simp; done) | (go_simp; rfl))); (try simp only [Act.put, List.setIfInBounds_toArray, List.set_cons_zero, List.set_cons_succ])
              refine tree_e rfl rfl ?_   -- 10: store 23 t69 t67
              go_must (refine ev_store (cs' := #[.pointer (some ⟨eb, 0, none⟩), .map (some ob), .slice (some ⟨ag, 0, none⟩) (s9.done.length + 1) acap, .int .i64 E.most]) rfl rfl rfl rfl rfl rfl Hi23.out Hs23.out rfl (hk11.blk (hk10.blk (w := w8.drew) Hcc8.out.ablk id) (own_ne Hcc8.out.own Hcc8.out.ablk (by decide))) (Nat.le_of_ble_eq_true rfl) rfl ?_; intro w12 hb12 hk12)
              refine wpList_nil ⟨hk12.cell f4 (by show g4 ≠ ab; omega), ?_⟩
              refine tree_nil ?_
          all_goals
            skip
            have hkr := ((((Keeps.refl Nob w8).drew.then hk10).mono (M' := fun k => k = ab ∨ some k = Value.ownBlock (.slice wA dn wc)) (fun _ _ h => h.elim)).trans hk11 (fun _ _ h => .inr h)).trans hk12 (fun _ _ h => .inl h)
            have hp12 := Hcc8.out.wrote (q := (qn : Int)) (w3 := w12) hkr hb12 (ownsRow_keep Hown11.out hk12 (fun b hb e => by subst e; exact own_ne Hown11.out (hk11.blk (hk10.blk (w := w8.drew) Hcc8.out.ablk id) (own_ne Hcc8.out.own Hcc8.out.ablk (by decide))) (by decide) hb.symm)) (Hr11.out.imp id (fun ⟨b, h1, h2⟩ => ⟨b, h1, Nat.le_trans hk10.size h2⟩))
            have ho12 : OpenX w12 ob on := by
              obtain ⟨es, c, hm1, _⟩ := id Ho8.out
              exact Ho8.out.keep hkr (Hcc8.out.mapFar hm1)
            have hb9w := hp12.blk Hb8.out (fun h => HW.out.nk (.inl h))
            have lg8 := blk_lt Hb8''.out
            have hfar : Far w6 ab ob mb g9 (.slice wA dn wc) (.slice aA asked.length ac) g8 := Far.step ⟨lg8, fun h => N8.out (.inl h), by omega, by simp [Value.ownBlock]⟩ HT.out
            have nf8 : ¬ FP ab eb ib mb ob (.slice wA dn wc) X' g8 := by
              rintro (h | h | h | h)
              · exact hfar.h1 h
              · exact N8.out (.inr (.inl h))
              · exact N8.out (.inr (.inr (.inl h)))
              · exact N8.out (.inr (.inr (.inr ((HT.out.xx g8 lg8).1 h))))
            have nf8' := hp12.notF (blk_lt Hb88.out) nf8
            have hb8w := hp12.blk Hb88.out (fun h => nf8 (.inl h))
            have c0 := (blk_cell hb9w 0).trans rfl
            have c1 := (blk_cell hb9w 1).trans rfl
            have c2 := (blk_cell hb9w 2).trans rfl
            have c3 := (blk_cell hb9w 3).trans rfl
            have Hb8w := Lib.hid hb8w
            have Hp12 := Lib.hid hp12
            have Ho12 := Lib.hid ho12
            have Nf8 := Lib.hid nf8
            have Nf8' := Lib.hid nf8'
            clear hkr hp12 ho12 hb9w hfar nf8 nf8' hb8w f0 f1 f2 f3 f4 hk10 hk11 hk12 hb12
            go_wp2_with ((with_reducible refine at_store (t := 85) rfl ?_); go_must (refine ev_store (cs' := #[.int .i64 v, .slice aA asked.length ac, .int .i64 E.rev, .int .i64 ch]) rfl rfl rfl rfl rfl rfl Hi85.out Hs85.out rfl Hb8w.out (Nat.le_of_ble_eq_true rfl) rfl ?_; intro w13 hb13 hk13); (try simp only [Act.put, List.setIfInBounds_toArray, List.set_cons_zero, List.set_cons_succ]))
            have q0 := (blk_cell hb13 0).trans rfl
            have q1 := (blk_cell hb13 1).trans rfl
            have q2 := (blk_cell hb13 2).trans rfl
            have q3 := (blk_cell hb13 3).trans rfl
            refine bodyPost_ret (v := .agg #[.int .i64 v, .slice aA asked.length ac, .int .i64 E.rev, .int .i64 ch]) (by rw [results_cell1 rfl]; go_simp) rfl ?_
            unfold WorkPost
            dsimp only
            rw [if_neg (by rw [Hdn.out]; omega), Hchd.out]
            have hc13 := Hp12.out.core.keepF hk13 (fun k _ e => by subst e; exact Nf8'.out)
            have ha4 := (((AskPost.ofWT HK5.out HT.out (by omega) rfl HC.out).then (M := (· = g9)) (Hk7.out.trans Hk78.out (fun _ _ h => h)) (fun i _ e => by omega) Hcc8.out).trans Hp12.out).then hk13 (fun i _ e => by omega) hc13
            have hav12 := ownsRow_keep Hav8.out Hp12.out.keep (fun b hb h => HW.out.nv b hb (.inl h))
            have hav13 := ownsRow_keep hav12 hk13 (fun b hb e => by subst e; exact own_ne hav12 Hb8w.out (by decide) hb.symm)
            have hoo := Ho12.out.keep hk13 (fun e => Nf8.out (.inl (.inr (.inl e.symm))))
            refine ⟨fun k => X' k ∨ some k = Value.ownBlock (.slice aA asked.length ac), _, _, ⟨fun b hb => ⟨fun h => ?_, fun h => .inl ((ha4.xx b hb).2 h)⟩, ha4.keep, ha4.row, hc13.widen (fun k hk => ⟨(own_lt hav13 k hk.symm).1, Hp12.out.notF (own_lt Hav8.out k hk.symm).1 (HW.out.nv k hk.symm)⟩)⟩, hoo, IntsX.own hav13 _ (fun k hk => .inr hk), rfl⟩
            rcases h with h | h
            · exact (ha4.xx b hb).1 h
            · rcases HT.out.rowa with hr | ⟨b', hr, hlt⟩
              · rw [hr] at h; cases h
              · rw [hr] at h; injection h with h; omega
        | false =>
          go_wp2
          obtain ⟨w8, hw8⟩ : ∃ w8, w7.drew = w8 := ⟨_, rfl⟩
          have Hb8 := Lib.hid (show w8.heap[g9]? = some (.cells #[.int .i64 v, av', .int .i64 E.rev, .int .i64 ch] 85 (0, 0)) by rw [hce, ← hw8]; exact Hb7.out)
          have Hk78 := Lib.hid (show Keeps (· = g9) w7 w8 by rw [← hw8]; exact (Keeps.refl (· = g9) w7).drew)
          rw [hw8]
          clear hw8 hce hve
          have hcc8 := Hcc7.out.keepF Hk78.out (fun k _ e => by subst e; exact HW.out.nk)
          obtain ⟨f0, f1, f2, f3⟩ := hcc8.cells
          have hb48 := Hk78.out.blk Hb47.out (by show g4 ≠ g9; omega)
          have f4 := (blk_cell hb48 0).trans rfl
          have hb88 := Hk78.out.blk Hb87.out (by show g8 ≠ g9; omega)
          have hav8 := ownsRow_keep Hav7.out Hk78.out (fun b hb e => by subst e; exact own_ne Hav7.out Hb7.out (by decide) hb.symm)
          have ho8 := Ho7.out.keep Hk78.out (fun e => HW.out.nk (.inl (.inr (.inl e.symm))))
          obtain ⟨aA, ac, rfl⟩ := own_slice hav8
          have Hcc8 := Lib.hid hcc8
          have Hb48 := Lib.hid hb48
          have Hb88 := Lib.hid hb88
          have Hav8 := Lib.hid hav8
          have Ho8 := Lib.hid ho8
          clear hcc8 hb48 hb88 hav8 ho8
          refine wp_region_tree (.q 0 (.q 1 (.q 2 (.q 3 (.q 5 (.br [4, 6] (fun k => bif Nat.beq k 4 then .br [6] (fun k => .br [7] (fun k => .q 8 (.q 9 (.br [10] (fun k => .done))))) else .br [4] (fun k => .br [7] (fun k => .q 8 (.q 9 (.br [10] (fun k => .done)))))))))))) (fun w' => w'.cell? ⟨g4, 0, none⟩ = some (.pointer (some ⟨ab, 0, none⟩))) rfl (by kernel_rfl) (by kernel_rfl) (fun c a d v w h => by cases d <;> exact h) f4 ?_
          refine tree_q (v := ?v5_11) (some 60) rfl rfl rfl ?q5_11 ?h5_11; (case q5_11 => (intro w' hS; have s1 := hS; first | (go_simp; done) | (go_simp; rfl))); (try simp only [Act.put, List.setIfInBounds_toArray, List.set_cons_zero, List.set_cons_succ])
          refine tree_q (v := ?v5_10) (some 61) rfl rfl rfl ?q5_10 ?h5_10; (case q5_10 => (intro w' hS; have s1 := hS; first | (go_simp; done) | (go_simp; rfl))); (try simp only [Act.put, List.setIfInBounds_toArray, List.set_cons_zero, List.set_cons_succ])
          refine tree_q (v := ?v5_9) (some 62) rfl rfl rfl ?q5_9 ?h5_9; (case q5_9 => (intro w' hS; have s1 := hS; first | (go_simp; done) | (go_simp; rfl))); (try simp only [Act.put, List.setIfInBounds_toArray, List.set_cons_zero, List.set_cons_succ])
          refine tree_q (v := ?v5_8) (some 63) rfl rfl rfl ?q5_8 ?h5_8; (case q5_8 => (intro w' hS; have s1 := hS; first | (go_simp; done) | (go_simp; rfl))); (try simp only [Act.put, List.setIfInBounds_toArray, List.set_cons_zero, List.set_cons_succ])
          refine tree_q (v := ?v5_7) (some 65) rfl rfl rfl ?q5_7 ?h5_7; (case q5_7 => (intro w' hS; have s1 := hS; first | (go_simp; done) | (go_simp; rfl))); (try simp only [Act.put, List.setIfInBounds_toArray, List.set_cons_zero, List.set_cons_succ])
          refine tree_b rfl rfl ?b5_3 ?nb5_3
          case' b5_3 =>   -- 4: load 23 t63
            refine ev_quiet (v := .slice wA dn wc) rfl (by first | (go_simp; done) | (go_simp; rfl)) ?_
            (try simp only [Act.put, List.setIfInBounds_toArray, List.set_cons_zero, List.set_cons_succ])
            refine wpList_nil ⟨f4, ?_⟩
            refine tree_e rfl rfl ?_   -- 6: buildSlice 23 1 [(0, t65)]
            go_must (refine ev_slice (cs := #[.int .i64 qn]) (t := 3) (n := 1) (c := 1) rfl (by first | (go_simp; done) | (go_simp; rfl)) ?_; intro g10 w10 hg10 hl10 hb10 hk10)
            (try simp only [Act.put, List.setIfInBounds_toArray, List.set_cons_zero, List.set_cons_succ])
            have f2 := hk10.cell (w := w8.drew) f2 id
            have f4 := hk10.cell (w := w8.drew) f4 id
            have Hb10 := Lib.hid hb10
            clear hb10
            refine wpList_nil ⟨f4, ?_⟩
            refine tree_e rfl rfl ?_   -- 7: call append(t64, t66) :#[23, 23]
            go_must (refine ev_append rfl rfl Tryd.underlying23 info3 rfl (by decide) (base := 0) rfl (ownsRow_keep Hcc8.out.own ((Keeps.refl Nob w8).drew.then hk10) (fun _ _ => id)) (news := [.int .i64 qn]) rfl rfl (fun _ => ⟨_, rfl, World.news_of_block Hb10.out⟩) (by simp [Value.oneCell']) (by have := Hdn.out; omega) (by decide) (Nat.zero_le _) ?_; intro av1 w11 hown11 hk11 hr11 hf11; obtain ⟨ag, acap, rfl⟩ := hf11 (by decide))
            have Hown11 := Lib.hid hown11
            have Hr11 := Lib.hid hr11
            clear hown11 hf11 hr11
            (try simp only [Act.put, List.setIfInBounds_toArray, List.set_cons_zero, List.set_cons_succ])
            have f4 := hk11.cell f4 (own_ne Hcc8.out.own Hb48.out (by decide))
            refine wpList_nil ⟨f4, ?_⟩
            refine tree_q (v := ?v5_2) (some 68) rfl rfl rfl ?q5_2 ?h5_2; (case q5_2 => (intro w' hS; have s1 := hS; first | (go_simp; done) | (go_simp; rfl))); (try simp only [Act.put, List.setIfInBounds_toArray, List.set_cons_zero, List.set_cons_succ])
            refine tree_q (v := ?v5_1) (some 69) rfl rfl rfl ?q5_1 ?h5_1; (case q5_1 => (intro w' hS; have s1 := hS; first | (go_simp; done) | (go_simp; rfl))); (try simp only [Act.put, List.setIfInBounds_toArray, List.set_cons_zero, List.set_cons_succ])
            refine tree_e rfl rfl ?_   -- 10: store 23 t69 t67
            go_must (refine ev_store (cs' := #[.pointer (some ⟨eb, 0, none⟩), .map (some ob), .slice (some ⟨ag, 0, none⟩) (s9.done.length + 1) acap, .int .i64 E.most]) rfl rfl rfl rfl rfl rfl Hi23.out Hs23.out rfl (hk11.blk (hk10.blk (w := w8.drew) Hcc8.out.ablk id) (own_ne Hcc8.out.own Hcc8.out.ablk (by decide))) (Nat.le_of_ble_eq_true rfl) rfl ?_; intro w12 hb12 hk12)
            refine wpList_nil ⟨hk12.cell f4 (by show g4 ≠ ab; omega), ?_⟩
            refine tree_nil ?_
          case' nb5_3 =>
            refine tree_e rfl rfl ?b5_6
            case' b5_6 =>   -- 6: buildSlice 23 1 [(0, t65)]
              go_must (refine ev_slice (cs := #[.int .i64 qn]) (t := 3) (n := 1) (c := 1) rfl (by first | (go_simp; done) | (go_simp; rfl)) ?_; intro g10 w10 hg10 hl10 hb10 hk10)
              (try simp only [Act.put, List.setIfInBounds_toArray, List.set_cons_zero, List.set_cons_succ])
              have f2 := hk10.cell (w := w8.drew) f2 id
              have f4 := hk10.cell (w := w8.drew) f4 id
              have Hb10 := Lib.hid hb10
              clear hb10
              refine wpList_nil ⟨f4, ?_⟩
              refine tree_e rfl rfl ?_   -- 4: load 23 t63
              refine ev_quiet (v := .slice wA dn wc) rfl (by first | (go_simp; done) | (go_simp; rfl)) ?_
              (try simp only [Act.put, List.setIfInBounds_toArray, List.set_cons_zero, List.set_cons_succ])
              refine wpList_nil ⟨f4, ?_⟩
              refine tree_e rfl rfl ?_   -- 7: call append(t64, t66) :#[23, 23]
              go_must (refine ev_append rfl rfl Tryd.underlying23 info3 rfl (by decide) (base := 0) rfl (ownsRow_keep Hcc8.out.own ((Keeps.refl Nob w8).drew.then hk10) (fun _ _ => id)) (news := [.int .i64 qn]) rfl rfl (fun _ => ⟨_, rfl, World.news_of_block Hb10.out⟩) (by simp [Value.oneCell']) (by have := Hdn.out; omega) (by decide) (Nat.zero_le _) ?_; intro av1 w11 hown11 hk11 hr11 hf11; obtain ⟨ag, acap, rfl⟩ := hf11 (by decide))
              have Hown11 := Lib.hid hown11
              have Hr11 := Lib.hid hr11
              clear hown11 hf11 hr11
              (try simp only [Act.put, List.setIfInBounds_toArray, List.set_cons_zero, List.set_cons_succ])
              have f4 := hk11.cell f4 (own_ne Hcc8.out.own Hb48.out (by decide))
              refine wpList_nil ⟨f4, ?_⟩
              refine tree_q (v := ?v5_5) (some 68) rfl rfl rfl ?q5_5 ?h5_5; (case q5_5 => (intro w' hS; have s1 := hS; first | (go_simp; done) | (go_simp; rfl))); (try simp only [Act.put, List.setIfInBounds_toArray, List.set_cons_zero, List.set_cons_succ])
              refine tree_q (v := ?v5_4) (some 69) rfl rfl rfl ?q5_4 ?h5_4; (case q5_4 => (intro w' hS; have s1 := hS; first | (go_simp; done) | (go_simp; rfl))); (try simp only [Act.put, List.setIfInBounds_toArray, List.set_cons_zero, List.set_cons_succ])
              refine tree_e rfl rfl ?_   -- 10: store 23 t69 t67
              go_must (refine ev_store (cs' := #[.pointer (some ⟨eb, 0, none⟩), .map (some ob), .slice (some ⟨ag, 0, none⟩) (s9.done.length + 1) acap, .int .i64 E.most]) rfl rfl rfl rfl rfl rfl Hi23.out Hs23.out rfl (hk11.blk (hk10.blk (w := w8.drew) Hcc8.out.ablk id) (own_ne Hcc8.out.own Hcc8.out.ablk (by decide))) (Nat.le_of_ble_eq_true rfl) rfl ?_; intro w12 hb12 hk12)
              refine wpList_nil ⟨hk12.cell f4 (by show g4 ≠ ab; omega), ?_⟩
              refine tree_nil ?_
          all_goals
            skip
            have hkr := ((((Keeps.refl Nob w8).drew.then hk10).mono (M' := fun k => k = ab ∨ some k = Value.ownBlock (.slice wA dn wc)) (fun _ _ h => h.elim)).trans hk11 (fun _ _ h => .inr h)).trans hk12 (fun _ _ h => .inl h)
            have hp12 := Hcc8.out.wrote (q := (qn : Int)) (w3 := w12) hkr hb12 (ownsRow_keep Hown11.out hk12 (fun b hb e => by subst e; exact own_ne Hown11.out (hk11.blk (hk10.blk (w := w8.drew) Hcc8.out.ablk id) (own_ne Hcc8.out.own Hcc8.out.ablk (by decide))) (by decide) hb.symm)) (Hr11.out.imp id (fun ⟨b, h1, h2⟩ => ⟨b, h1, Nat.le_trans hk10.size h2⟩))
            have ho12 : OpenX w12 ob on := by
              obtain ⟨es, c, hm1, _⟩ := id Ho8.out
              exact Ho8.out.keep hkr (Hcc8.out.mapFar hm1)
            have hb9w := hp12.blk Hb8.out (fun h => HW.out.nk (.inl h))
            have lg8 := blk_lt Hb8''.out
            have hfar : Far w6 ab ob mb g9 (.slice wA dn wc) (.slice aA asked.length ac) g8 := Far.step ⟨lg8, fun h => N8.out (.inl h), by omega, by simp [Value.ownBlock]⟩ HT.out
            have nf8 : ¬ FP ab eb ib mb ob (.slice wA dn wc) X' g8 := by
              rintro (h | h | h | h)
              · exact hfar.h1 h
              · exact N8.out (.inr (.inl h))
              · exact N8.out (.inr (.inr (.inl h)))
              · exact N8.out (.inr (.inr (.inr ((HT.out.xx g8 lg8).1 h))))
            have nf8' := hp12.notF (blk_lt Hb88.out) nf8
            have hb8w := hp12.blk Hb88.out (fun h => nf8 (.inl h))
            have c0 := (blk_cell hb9w 0).trans rfl
            have c1 := (blk_cell hb9w 1).trans rfl
            have c2 := (blk_cell hb9w 2).trans rfl
            have c3 := (blk_cell hb9w 3).trans rfl
            have Hb8w := Lib.hid hb8w
            have Hp12 := Lib.hid hp12
            have Ho12 := Lib.hid ho12
            have Nf8 := Lib.hid nf8
            have Nf8' := Lib.hid nf8'
            clear hkr hp12 ho12 hb9w hfar nf8 nf8' hb8w f0 f1 f2 f3 f4 hk10 hk11 hk12 hb12
            go_wp2_with ((with_reducible refine at_store (t := 85) rfl ?_); go_must (refine ev_store (cs' := #[.int .i64 v, .slice aA asked.length ac, .int .i64 E.rev, .int .i64 ch]) rfl rfl rfl rfl rfl rfl Hi85.out Hs85.out rfl Hb8w.out (Nat.le_of_ble_eq_true rfl) rfl ?_; intro w13 hb13 hk13); (try simp only [Act.put, List.setIfInBounds_toArray, List.set_cons_zero, List.set_cons_succ]))
            have q0 := (blk_cell hb13 0).trans rfl
            have q1 := (blk_cell hb13 1).trans rfl
            have q2 := (blk_cell hb13 2).trans rfl
            have q3 := (blk_cell hb13 3).trans rfl
            refine bodyPost_ret (v := .agg #[.int .i64 v, .slice aA asked.length ac, .int .i64 E.rev, .int .i64 ch]) (by rw [results_cell1 rfl]; go_simp) rfl ?_
            unfold WorkPost
            dsimp only
            rw [if_neg (by rw [Hdn.out]; omega), Hchd.out]
            have hc13 := Hp12.out.core.keepF hk13 (fun k _ e => by subst e; exact Nf8'.out)
            have ha4 := (((AskPost.ofWT HK5.out HT.out (by omega) rfl HC.out).then (M := (· = g9)) (Hk7.out.trans Hk78.out (fun _ _ h => h)) (fun i _ e => by omega) Hcc8.out).trans Hp12.out).then hk13 (fun i _ e => by omega) hc13
            have hav12 := ownsRow_keep Hav8.out Hp12.out.keep (fun b hb h => HW.out.nv b hb (.inl h))
            have hav13 := ownsRow_keep hav12 hk13 (fun b hb e => by subst e; exact own_ne hav12 Hb8w.out (by decide) hb.symm)
            have hoo := Ho12.out.keep hk13 (fun e => Nf8.out (.inl (.inr (.inl e.symm))))
            refine ⟨fun k => X' k ∨ some k = Value.ownBlock (.slice aA asked.length ac), _, _, ⟨fun b hb => ⟨fun h => ?_, fun h => .inl ((ha4.xx b hb).2 h)⟩, ha4.keep, ha4.row, hc13.widen (fun k hk => ⟨(own_lt hav13 k hk.symm).1, Hp12.out.notF (own_lt Hav8.out k hk.symm).1 (HW.out.nv k hk.symm)⟩)⟩, hoo, IntsX.own hav13 _ (fun k hk => .inr hk), rfl⟩
            rcases h with h | h
            · exact (ha4.xx b hb).1 h
            · rcases HT.out.rowa with hr | ⟨b', hr, hlt⟩
              · rw [hr] at h; cases h
              · rw [hr] at h; injection h with h; omega
end Go.Proofs.QW

/-
  Asking (ask), in memory: one level, from nested askings that come to the model's. Condition: nested askings come to the model's.
-/
namespace Go.Proofs.QW
open Go.RowKit Go.Proofs.KL Go.Proofs.QM
set_option maxRecDepth 100000
set_option linter.unusedSimpArgs false
set_option linter.unusedVariables false

section
variable {P : Program} {ops : Array Oper} {rest : List Oper} {o : Oper} {a : Act} {Q : Exit → Act → World → Prop}
theorem at_update {t : TypeId} {m k v : Operand} {W : World} (_h : o.op = .mapUpdate t m k v) (h : wpList P ops Q (o :: rest) a W) : wpList P ops Q (o :: rest) a W := h
theorem at_delete {m k : Operand} {t u : TypeId} {W : World} (_h : o.op = .call { callee := .builtin .delete, args := #[m, k], argTypes := #[t, u] }) (h : wpList P ops Q (o :: rest) a W) : wpList P ops Q (o :: rest) a W := h
end
theorem zero4 : (Tryd.prog.info? 4).map (·.zero) = some (some (.bool false)) := by kernel_rfl
/-- A block of cells, or one that holds a map, is not another of the asking's. -/
theorem AskC.obFar {w : World} {X : Nat → Prop} {ab eb ib mb ob : Nat} {E : Env} {s : PS} {wv : Value} (h : AskC w X ab eb ib mb ob E s wv) : ob ≠ ab ∧ ob ≠ eb ∧ ob ≠ ib ∧ ob ≠ mb ∧ ¬ some ob = wv.ownBlock := by
  obtain ⟨⟨rv, c, heb, _⟩, ⟨cs, hib, _⟩, _, _, _, _⟩ := id h.eng
  obtain ⟨es, c, ho⟩ := h.oblk
  have hf := h.mapFar ho
  refine ⟨fun e => hf (.inl e), fun e => ?_, fun e => ?_, fun e => h.mo e.symm, fun e => hf (.inr e)⟩
  · subst e; have := ho.symm.trans heb; injection this with this; cases this
  · subst e; have := ho.symm.trans hib; injection this with this; cases this
theorem AskC.mbFar {w : World} {X : Nat → Prop} {ab eb ib mb ob : Nat} {E : Env} {s : PS} {wv : Value} (h : AskC w X ab eb ib mb ob E s wv) : mb ≠ ab ∧ mb ≠ eb ∧ mb ≠ ib ∧ mb ≠ ob ∧ ¬ some mb = wv.ownBlock := by
  obtain ⟨⟨rv, c, heb, _⟩, ⟨cs, hib, _⟩, ⟨es, cl, hmb, _⟩, _, _, _⟩ := id h.eng
  have hf := h.mapFar hmb
  refine ⟨fun e => hf (.inl e), fun e => ?_, fun e => ?_, fun e => h.mo e, fun e => hf (.inr e)⟩
  · subst e; have := hmb.symm.trans heb; injection this with this; cases this
  · subst e; have := hmb.symm.trans hib; injection this with this; cases this
theorem AskC.wroteOpen {w w' : World} {X : Nat → Prop} {ab eb ib mb ob : Nat} {E : Env} {s : PS} {wv : Value} {es : Array MapEntry} {c : Nat} (h : AskC w X ab eb ib mb ob E s wv) (hk : Keeps (· = ob) w w') (hb : w'.heap[ob]? = some (.map es c)) : AskPost w X ab eb ib mb ob E wv s w' X wv := by
  obtain ⟨n1, n2, n3, n4, n5⟩ := h.obFar
  refine ⟨fun _ _ => Iff.rfl, hk.mono (fun _ _ e => .inr (.inl e)), .inl rfl, hk.blk h.ablk (fun e => n1 e.symm), h.eng.keep hk (fun e => n2 e.symm) (fun e => n3 e.symm) (fun e => n4 e.symm) (fun b _ hx e => h.xo (by rw [← e]; exact hx)) (fun _ _ => Iff.rfl), ⟨es, c, hb⟩,
    ownsRow_keep h.own hk (fun b hb' e => by subst e; exact n5 hb'.symm), h.xa, h.xo, h.xw, h.mo, fun k hx => Nat.lt_of_lt_of_le (h.xl k hx) hk.size⟩
theorem AskC.wroteAns {w w' : World} {X : Nat → Prop} {ab eb ib mb ob : Nat} {E : Env} {s : PS} {wv : Value} {es es' : Array MapEntry} {c c' : Nat} {q : Int} {k : KeptR} {u : Value} (h : AskC w X ab eb ib mb ob E s wv) (hk : Keeps (· = mb) w w') (hm : w.heap[mb]? = some (.map es c)) (hb : w'.heap[mb]? = some (.map es' c'))
    (hkey : IntKeyed es'.toList) (hl : ∀ q', mlook es'.toList q' = if q' = q then some (.agg #[.int .i64 k.value, u, .int .i64 k.checked, .int .i64 k.changed]) else mlook es.toList q') (hu : IntsX w X u k.asked) (hq : InQ E q) (hal : s.ans.length = E.rules.length) :
    AskPost w X ab eb ib mb ob E wv (s.set q k) w' X wv := by
  obtain ⟨n1, n2, n3, n4, n5⟩ := h.mbFar
  obtain ⟨⟨rv, cc, heb, hrx⟩, hinp, ⟨es0, c0, hmb, hk0, hout, hans⟩, xe, xi, xm⟩ := id h.eng
  obtain ⟨rfl, rfl⟩ : es0 = es ∧ c0 = c := by have := hmb.symm.trans hm; injection this with this; injection this with h1 h2; exact ⟨h1, h2⟩
  obtain ⟨eo, co, hob⟩ := h.oblk
  have hX : ∀ b, b < w.heap.size → X b → ¬ b = mb := fun b _ hx e => xm (by rw [← e]; exact hx)
  have hqn : q.toNat < s.ans.length := by have := hq.1; have := hq.2; omega
  refine ⟨fun _ _ => Iff.rfl, hk.mono (fun _ _ e => .inr (.inr (.inl e))), .inl rfl, hk.blk h.ablk (fun e => n1 e.symm), ⟨⟨rv, cc, hk.blk heb (fun e => n2 e.symm), hrx.keep hk hX (fun _ _ h => h)⟩, hinp.keep hk (fun e => n3 e.symm), ⟨es', c', hb, hkey, fun q' hn => ?_, fun q' h0 h1 => ?_⟩, xe, xi, xm⟩, ⟨eo, co, hk.blk hob (fun e => n4 e.symm)⟩,
    ownsRow_keep h.own hk (fun b hb' e => by subst e; exact n5 hb'.symm), h.xa, h.xo, h.xw, h.mo, fun k hx => Nat.lt_of_lt_of_le (h.xl k hx) hk.size⟩
  · rw [hl, if_neg (fun e => hn (by subst e; exact hq)), hout q' hn]
  · rw [hl]
    by_cases e : q' = q
    · subst e
      rw [if_pos rfl]
      have : (s.set q' k).ans.getD q'.toNat none = some k := get_set_self hqn
      rw [this]
      exact ⟨_, rfl, u, rfl, hu.keep hk hX (fun _ _ h => h)⟩
    · rw [if_neg e]
      have : (s.set q k).ans.getD q'.toNat none = s.ans.getD q'.toNat none := get_set_other hq.1 h0 e
      rw [this]
      have := hans q' h0 h1
      split at this
      · obtain ⟨v, hv, hkx⟩ := this
        exact ⟨v, hv, hkx.keep hk hX (fun _ _ h => h)⟩
      · exact this
theorem OpenX.push {w w' : World} {ob : Nat} {on : List Int} {es es' : Array MapEntry} {c c' : Nat} {q : Int} (hm : w.heap[ob]? = some (.map es c)) (h : OpenX w ob on) (hb : w'.heap[ob]? = some (.map es' c')) (hkey : IntKeyed es'.toList)
    (hl : ∀ q', mlook es'.toList q' = if q' = q then some (.bool true) else mlook es.toList q') : OpenX w' ob (q :: on) := by
  obtain ⟨es0, c0, h0, _, h1⟩ := h
  obtain ⟨rfl, rfl⟩ : es0 = es ∧ c0 = c := by have := h0.symm.trans hm; injection this with this; injection this with h1 h2; exact ⟨h1, h2⟩
  refine ⟨es', c', hb, hkey, fun q' => ?_⟩
  rw [hl, h1]
  by_cases e : q' = q
  · simp [e]
  · simp [e]
theorem OpenX.pop {w w' : World} {ob : Nat} {on : List Int} {es es' : Array MapEntry} {c c' : Nat} {q : Int} (hm : w.heap[ob]? = some (.map es c)) (h : OpenX w ob (q :: on)) (hn : q ∉ on) (hb : w'.heap[ob]? = some (.map es' c')) (hkey : IntKeyed es'.toList)
    (hl : ∀ q', mlook es'.toList q' = if q' = q then none else mlook es.toList q') : OpenX w' ob on := by
  obtain ⟨es0, c0, h0, _, h1⟩ := h
  obtain ⟨rfl, rfl⟩ : es0 = es ∧ c0 = c := by have := h0.symm.trans hm; injection this with this; injection this with h1 h2; exact ⟨h1, h2⟩
  refine ⟨es', c', hb, hkey, fun q' => ?_⟩
  rw [hl, h1]
  by_cases e : q' = q
  · subst e; rw [if_pos rfl, if_neg hn]
  · rw [if_neg e]; simp [e]

set_option maxHeartbeats 1000000 in
/-- An input. -/
theorem ask_input {E : Env} (hE : EnvOk E) {on : List Int} (w : World) (X : Nat → Prop) (ab eb ib mb ob : Nat) (s : PS) (wv : Value) (q : Int) (hc : AskC w X ab eb ib mb ob E s wv) (ho : OpenX w ob on) (hq : InQ E q) (hk : (E.rule q).kind = 1) :
    Calls Tryd.prog 40 #[.pointer (some ⟨ab, 0, none⟩), .int .i64 q] w (Asks w X ab eb ib mb ob E on wv KeptV (s, .ok (E.inp.getD q.toNat 0, E.inpCh.getD q.toNat 0))) := by
  obtain ⟨i85, hi85, hs85⟩ := info85
  obtain ⟨a0, a1, a2, a3⟩ := hc.cells
  obtain ⟨A, cc, cc', b0, b1, b2, b3, hrx⟩ := hc.eng.cells
  obtain ⟨cs, hib, hinp⟩ := id hc.eng.inp
  obtain ⟨i, rfl⟩ := Int.eq_ofNat_of_zero_le hq.1
  have hin : i < E.rules.length := by have := hq.2; omega
  obtain ⟨c0, c1, c2, c3⟩ := hinp i hin
  have d0 := (blk_cell hib (i * 4)).trans c0
  have d1 := (blk_cell hib (i * 4 + 1)).trans c1
  have d2 := (blk_cell hib (i * 4 + 2)).trans c2
  have d3 := (blk_cell hib (i * 4 + 3)).trans c3
  have hkb : ((E.rules.getD (i : Int).toNat default).kind == 1) = true := by
    have : E.rules.getD (i : Int).toNat default = E.rule i := by simp [Env.rule]
    rw [this, hk]; rfl
  have h200 := hE.len
  have hqq := hq.2
  have Hrx := Lib.hid hrx
  have Hc := Lib.hid hc
  have Ho := Lib.hid ho
  have Hi85 := Lib.hid hi85
  have Hs85 := Lib.hid hs85
  have lab := World.block_lt_of_cell? _ _ a0
  have leb := World.block_lt_of_cell? _ _ b0
  have lib := blk_lt hib
  dsimp only at lab leb
  clear hrx hc ho hi85 hs85 hinp c0 c1 c2 c3 hib
  simp only [Int.toNat_natCast] at *
  generalize E.inp.getD i 0 = iv at *
  generalize E.inpCh.getD i 0 = ic at *
  generalize hrl : E.rules.length = rl at *
  have Hrl := Lib.hid hrl
  clear hrl
  go_enter Tryd.func40, Tryd.ntmps40
  go_wp2_with (first
    | ((with_reducible refine at_dst (N := 4) rfl ?_); go_must (refine ev_alloc rfl rfl zero85 rfl ?_; intro g4 w1 hg4 hl4 hb4 hk4); have Hb4 := Lib.hid hb4; clear hb4
       have a0 := hk4.cell a0 id
       have b0 := hk4.cell b0 id
       have b1 := hk4.cell b1 id
       have d0 := hk4.cell d0 id
       have d1 := hk4.cell d1 id
       have d2 := hk4.cell d2 id
       have d3 := hk4.cell d3 id
       (try simp only [Act.put, List.setIfInBounds_toArray, List.set_cons_zero, List.set_cons_succ]))
    | (go_at_call 37; go_must (refine (input_any eb i E.rules X _ w1 b0 (Hrx.out.keep hk4 (fun _ _ _ => id) (fun _ _ h => h)) (by omega) (by rw [Hrl.out]; omega) (by rw [Hrl.out]; omega)).mono ?_; rintro e w' ⟨rfl, rfl⟩; simp only [Int.toNat_natCast, hkb]))
    | ((with_reducible refine at_store (t := 85) rfl ?_); go_must (refine ev_store (cs' := #[.int .i64 iv, .slice none 0 0, .int .i64 0, .int .i64 ic]) rfl rfl rfl rfl rfl rfl Hi85.out Hs85.out rfl Hb4.out (Nat.le_of_ble_eq_true rfl) rfl ?_; intro w2 hb2 hk2); (try simp only [Act.put, List.setIfInBounds_toArray, List.set_cons_zero, List.set_cons_succ])))
  have q0 := (blk_cell hb2 0).trans rfl
  have q1 := (blk_cell hb2 1).trans rfl
  have q2 := (blk_cell hb2 2).trans rfl
  have q3 := (blk_cell hb2 3).trans rfl
  refine bodyPost_ret (v := .agg #[.int .i64 iv, .slice none 0 0, .int .i64 0, .int .i64 ic]) (by rw [results_cell1 rfl]; go_simp) rfl ?_
  have hkk : Keeps Nob w w2 := hk4.own hk2 hg4
  exact ⟨X, wv, ⟨fun _ _ => Iff.rfl, hkk.mono (fun _ _ h => h.elim), .inl rfl, Hc.out.keep hkk (fun _ _ h => h)⟩, fun _ _ => Ho.out.keep hkk id, _, ⟨_, _, rfl, rfl⟩, rfl⟩

theorem WorkPost.err {w : World} {X : Nat → Prop} {ab eb ib mb ob : Nat} {E : Env} {on : List Int} {wv : Value} {q : Int} {was : Option KeptR} {s1 : PS} {c : Int} {e : Ending} {w' : World} (h : WorkPost w X ab eb ib mb ob E on wv q was (s1, .error c) e w') :
    ∃ X' wv', AskPost w X ab eb ib mb ob E wv s1 w' X' wv' ∧ e = .panicked [{ v := .iface 90 (.int .i64 c), recovered := false }] := h
theorem WorkPost.stop {w : World} {X : Nat → Prop} {ab eb ib mb ob : Nat} {E : Env} {on : List Int} {wv : Value} {q : Int} {was : Option KeptR} {s1 : PS} {v : Int} {asked : List Int} {e : Ending} {w' : World} (hm : E.most ≤ s1.done.length) (h : WorkPost w X ab eb ib mb ob E on wv q was (s1, .ok (v, asked)) e w') :
    ∃ X' wv', AskPost w X ab eb ib mb ob E wv s1 w' X' wv' ∧ e = .panicked [{ v := .iface 90 (.int .i64 13), recovered := false }] := by
  unfold WorkPost at h
  dsimp only at h
  rwa [if_pos hm] at h
theorem WorkPost.fine {w : World} {X : Nat → Prop} {ab eb ib mb ob : Nat} {E : Env} {on : List Int} {wv : Value} {q : Int} {was : Option KeptR} {s1 : PS} {v : Int} {asked : List Int} {e : Ending} {w' : World} (hm : ¬ E.most ≤ s1.done.length) (h : WorkPost w X ab eb ib mb ob E on wv q was (s1, .ok (v, asked)) e w') :
    ∃ X' wv' u, AskPost w X ab eb ib mb ob E wv { s1 with done := s1.done ++ [q] } w' X' wv' ∧ OpenX w' ob on ∧ IntsX w' X' u asked ∧ e = .returned (.agg #[.int .i64 v, u, .int .i64 E.rev, .int .i64 (chOf E.rev was v)]) := by
  unfold WorkPost at h
  dsimp only at h
  rwa [if_neg hm] at h
set_option maxHeartbeats 2000000 in
/-- A question that is no input. -/
theorem ask_rest {E : Env} (hE : EnvOk E) {f : Nat} {on : List Int} (w : World) (X : Nat → Prop) (ab eb ib mb ob : Nat) (s : PS) (wv : Value) (q : Int) (IH : AskOK E (q :: on) (askF E f (q :: on))) (hc : AskC w X ab eb ib mb ob E s wv) (ho : OpenX w ob on) (hi : PInv E on s) (hq : InQ E q) (hk : (E.rule q).kind ≠ 1) :
    Calls Tryd.prog 40 #[.pointer (some ⟨ab, 0, none⟩), .int .i64 q] w (Asks w X ab eb ib mb ob E on wv KeptV (askF E (f + 1) on s q)) := by
  obtain ⟨RR, hRR⟩ : ∃ r, askF E (f + 1) on s q = r := ⟨_, rfl⟩
  rw [hRR]
  unfold askF at hRR
  rw [if_neg hk] at hRR
  have hG : QM.Good E (q :: on) (askF E f (q :: on)) := askF_good hE f _
  generalize askF E f (q :: on) = ask at *
  obtain ⟨i85, hi85, hs85⟩ := info85
  obtain ⟨i3, hi3, hs3⟩ := infoS3
  obtain ⟨a0, a1, a2, a3⟩ := hc.cells
  obtain ⟨A, cc, cc', b0, b1, b2, b3, hrx⟩ := hc.eng.cells
  obtain ⟨es, cl, hmb, hkey, hout, hans⟩ := id hc.eng.ans
  obtain ⟨eo, co, hob, hokey, hoq⟩ := id ho
  obtain ⟨u, hv, hints, hsm⟩ := AnsX.get hq.1 hq.2 hans
  obtain ⟨i, rfl⟩ := Int.eq_ofNat_of_zero_le hq.1
  have hin : i < E.rules.length := by have := hq.2; omega
  have hkb : ((E.rules.getD (i : Int).toNat default).kind == 1) = false := by
    have : E.rules.getD (i : Int).toNat default = E.rule i := by simp [Env.rule]
    rw [this]; simpa using hk
  obtain ⟨was, hwas⟩ : ∃ x, s.get i = x := ⟨_, rfl⟩
  have hwas' : s.ans.getD (i : Int).toNat none = was := hwas
  rw [hwas'] at hv hints hsm
  rw [hwas] at hRR
  obtain ⟨k, hkd⟩ : ∃ k, was.getD k0 = k := ⟨_, rfl⟩
  rw [hkd] at hv hints
  obtain ⟨uA, uc, rfl, _, _⟩ := id hints
  have h200 := hE.len
  have hqq := hq.2
  have lab := World.block_lt_of_cell? _ _ a0
  have leb := World.block_lt_of_cell? _ _ b0
  have lmb := blk_lt hmb
  have lob := blk_lt hob
  dsimp only at lab leb
  have Hrx := Lib.hid hrx
  have Hc := Lib.hid hc
  have Ho := Lib.hid ho
  have Hi := Lib.hid hi
  have Hi85 := Lib.hid hi85
  have Hs85 := Lib.hid hs85
  have Hi3 := Lib.hid hi3
  have Hs3 := Lib.hid hs3
  have Hmb := Lib.hid hmb
  have Hkey := Lib.hid hkey
  have Hob := Lib.hid hob
  have Hokey := Lib.hid hokey
  have Hoq := Lib.hid hoq
  have Hv := Lib.hid hv
  have Hints := Lib.hid hints
  have Hwas := Lib.hid hwas
  have Hkd := Lib.hid hkd
  have HRR := Lib.hid hRR
  have Hk := Lib.hid hk
  have HG := Lib.hid hG
  have HIH := Lib.hid IH
  have Hq := Lib.hid hq
  clear hrx hc ho hi hi85 hs85 hi3 hs3 hmb hkey hout hans hob hokey hoq hv hints hwas hwas' hkd hRR hk hG IH hq
  simp only [Int.toNat_natCast] at *
  generalize hrl : E.rules.length = rl at *
  have Hrl := Lib.hid hrl
  generalize hul : k.asked.length = ul at *
  have Hul := Lib.hid hul
  obtain ⟨sm, hsm'⟩ : ∃ b, was.isSome = b := ⟨_, rfl⟩
  rw [hsm'] at hsm
  have Hsm := Lib.hid hsm
  have Hsm' := Lib.hid hsm'
  clear hrl hul hsm hsm'
  go_enter Tryd.func40, Tryd.ntmps40
  go_wp2_with (first
    | ((with_reducible refine at_dst (N := 4) rfl ?_); go_must (refine ev_alloc rfl rfl zero85 rfl ?_; intro g4 w1 hg4 hl4 hb4 hk4); have Hb4 := Lib.hid hb4; clear hb4
       have a0 := hk4.cell a0 id
       have a1 := hk4.cell a1 id
       have b0 := hk4.cell b0 id
       have b2 := hk4.cell b2 id
       have b3 := hk4.cell b3 id
       (try simp only [Act.put, List.setIfInBounds_toArray, List.set_cons_zero, List.set_cons_succ]))
    | (go_at_call 37; go_must (refine (input_any eb i E.rules X _ w1 b0 (Hrx.out.keep hk4 (fun _ _ _ => id) (fun _ _ h => h)) (by omega) (by rw [Hrl.out]; omega) (by rw [Hrl.out]; omega)).mono ?_; rintro e w' ⟨rfl, rfl⟩; simp only [Int.toNat_natCast, hkb]))
    | ((with_reducible refine at_dst (N := 32) rfl ?_); go_must (refine ev_lookup_ok rfl rfl Tryd.underlying61 Tryd.underlying3 zero85 rfl rfl (hk4.blk Hmb.out id) Hkey.out ?_; rw [Hv.out, Hsm.out]); (try simp only [Act.put, List.setIfInBounds_toArray, List.set_cons_zero, List.set_cons_succ]))
    | ((with_reducible refine at_dst (N := 5) rfl ?_); go_must (refine ev_alloc rfl rfl zero85 rfl ?_; intro g5 w2 hg5 hl5 hb5 hk5); have Hb5 := Lib.hid hb5; clear hb5
       have a0 := hk5.cell a0 id
       have a1 := hk5.cell a1 id
       have b0 := hk5.cell b0 id
       have b2 := hk5.cell b2 id
       have b3 := hk5.cell b3 id
       (try simp only [Act.put, List.setIfInBounds_toArray, List.set_cons_zero, List.set_cons_succ]))
    | ((with_reducible refine at_store (t := 85) rfl ?_); go_must (refine ev_store (cs' := #[.int .i64 k.value, .slice uA ul uc, .int .i64 k.checked, .int .i64 k.changed]) rfl rfl rfl rfl rfl rfl Hi85.out Hs85.out rfl Hb5.out (Nat.le_of_ble_eq_true rfl) rfl ?_; intro w3 hb3 hk3); have Hb3 := Lib.hid hb3; clear hb3; (try simp only [Act.put, List.setIfInBounds_toArray, List.set_cons_zero, List.set_cons_succ])))
  have hk02 : Keeps Nob w w2 := hk4.trans hk5 (fun _ _ h => h)
  have hk03 : Keeps Nob w w3 := hk02.own hk3 (by have := hk4.size; omega)
  have z4 := hk4.size
  have z5 := hk5.size
  have a0 := hk3.cell a0 (by show ab ≠ g5; omega)
  have a1 := hk3.cell a1 (by show ab ≠ g5; omega)
  have b0 := hk3.cell b0 (by show eb ≠ g5; omega)
  have b2 := hk3.cell b2 (by show eb ≠ g5; omega)
  have b3 := hk3.cell b3 (by show eb ≠ g5; omega)
  have f0 := (blk_cell Hb3.out 0).trans rfl
  have f1 := (blk_cell Hb3.out 1).trans rfl
  have f2 := (blk_cell Hb3.out 2).trans rfl
  have f3 := (blk_cell Hb3.out 3).trans rfl
  have hb43 := hk3.blk (hk5.blk Hb4.out id) (by show g4 ≠ g5; omega)
  have Hb43 := Lib.hid hb43
  have HK := Lib.hid hk03
  have hc3 := Hc.out.keep hk03 (fun _ _ h => h)
  have Hc3 := Lib.hid hc3
  have ho3 := Ho.out.keep hk03 id
  have Ho3 := Lib.hid ho3
  have hob3 := hk03.blk Hob.out id
  have Hob3 := Lib.hid hob3
  have N4 := Lib.hid (Hc.out.newF (g := g4) hg4)
  have N5 := Lib.hid (Hc.out.newF (g := g5) (by omega))
  have g5o : g5 ≠ ob := by omega
  have g4o : g4 ≠ ob := by omega
  clear hb43 hk03 hk02 hk3 hk4 hk5 hc3 ho3 hob3 Hb4 Hb5
  cases sm with
  | true =>
    have hwk : was = some k := by
      have h1 := Hsm'.out
      have h2 := Hkd.out
      cases hw : was with
      | none => rw [hw] at h1; cases h1
      | some x => rw [hw] at h2; exact congrArg some h2
    by_cases hch : k.checked = E.rev
    · have hcb : (k.checked == E.rev) = true := by simp [hch]
      have hon : (i : Int) ∉ on := fun h => Hi.out.onk i h k (Hwas.out.trans hwk) hch
      have hR := HRR.out
      rw [if_neg hon, hwk] at hR
      simp only [if_pos hch] at hR
      have HR := Lib.hid hR
      have Hwk := Lib.hid hwk
      clear hR hwk HRR
      refine wp_region_perm [(0, true), (1, true), (2, true), (3, true), (4, true), (5, true), (6, true), (7, true), (8, true), (9, true), (10, true), (11, true), (12, true)] (fun w' => w'.cell? ⟨g5, 2, none⟩ = some (.int .i64 k.checked) ∧ w'.cell? ⟨ab, 0, none⟩ = some (.pointer (some ⟨eb, 0, none⟩)) ∧ w'.cell? ⟨eb, 3, none⟩ = some (.int .i64 E.rev)) rfl (by kernel_rfl) (by kernel_rfl) (by decide) (fun c a d v w h => by cases d <;> exact h) ⟨f2, a0, b3⟩ ?_
      refine perm_q (v := ?v1_0) (some 35) rfl rfl rfl ?q1_0 ?h1_0; (case q1_0 => (intro w' hS; obtain ⟨s1, s2, s3⟩ := hS; first | (go_simp; done) | (go_simp; rfl))); (try simp only [Act.put, List.setIfInBounds_toArray, List.set_cons_zero, List.set_cons_succ])
      refine perm_q (v := ?v1_1) (some 36) rfl rfl rfl ?q1_1 ?h1_1; (case q1_1 => (intro w' hS; obtain ⟨s1, s2, s3⟩ := hS; first | (go_simp; done) | (go_simp; rfl))); (try simp only [Act.put, List.setIfInBounds_toArray, List.set_cons_zero, List.set_cons_succ])
      refine perm_q (v := ?v1_2) (some 37) rfl rfl rfl ?q1_2 ?h1_2; (case q1_2 => (intro w' hS; obtain ⟨s1, s2, s3⟩ := hS; first | (go_simp; done) | (go_simp; rfl))); (try simp only [Act.put, List.setIfInBounds_toArray, List.set_cons_zero, List.set_cons_succ])
      refine perm_q (v := ?v1_3) (some 38) rfl rfl rfl ?q1_3 ?h1_3; (case q1_3 => (intro w' hS; obtain ⟨s1, s2, s3⟩ := hS; first | (go_simp; done) | (go_simp; rfl))); (try simp only [Act.put, List.setIfInBounds_toArray, List.set_cons_zero, List.set_cons_succ])
      refine perm_q (v := ?v1_4) (some 39) rfl rfl rfl ?q1_4 ?h1_4; (case q1_4 => (intro w' hS; obtain ⟨s1, s2, s3⟩ := hS; first | (go_simp; done) | (go_simp; rfl))); (try simp only [Act.put, List.setIfInBounds_toArray, List.set_cons_zero, List.set_cons_succ])
      refine perm_q (v := ?v1_5) (some 40) rfl rfl rfl ?q1_5 ?h1_5; (case q1_5 => (intro w' hS; obtain ⟨s1, s2, s3⟩ := hS; first | (go_simp; done) | (go_simp; rfl))); (try simp only [Act.put, List.setIfInBounds_toArray, List.set_cons_zero, List.set_cons_succ])
      refine perm_q (v := ?v1_6) (some 41) rfl rfl rfl ?q1_6 ?h1_6; (case q1_6 => (intro w' hS; obtain ⟨s1, s2, s3⟩ := hS; first | (go_simp; done) | (go_simp; rfl))); (try simp only [Act.put, List.setIfInBounds_toArray, List.set_cons_zero, List.set_cons_succ])
      refine perm_q (v := ?v1_7) (some 42) rfl rfl rfl ?q1_7 ?h1_7; (case q1_7 => (intro w' hS; obtain ⟨s1, s2, s3⟩ := hS; first | (go_simp; done) | (go_simp; rfl))); (try simp only [Act.put, List.setIfInBounds_toArray, List.set_cons_zero, List.set_cons_succ])
      refine perm_q (v := ?v1_8) (some 43) rfl rfl rfl ?q1_8 ?h1_8; (case q1_8 => (intro w' hS; obtain ⟨s1, s2, s3⟩ := hS; first | (go_simp; done) | (go_simp; rfl))); (try simp only [Act.put, List.setIfInBounds_toArray, List.set_cons_zero, List.set_cons_succ])
      refine perm_q (v := ?v1_9) (some 44) rfl rfl rfl ?q1_9 ?h1_9; (case q1_9 => (intro w' hS; obtain ⟨s1, s2, s3⟩ := hS; first | (go_simp; done) | (go_simp; rfl))); (try simp only [Act.put, List.setIfInBounds_toArray, List.set_cons_zero, List.set_cons_succ])
      refine perm_q (v := ?v1_10) (some 45) rfl rfl rfl ?q1_10 ?h1_10; (case q1_10 => (intro w' hS; obtain ⟨s1, s2, s3⟩ := hS; first | (go_simp; done) | (go_simp; rfl))); (try simp only [Act.put, List.setIfInBounds_toArray, List.set_cons_zero, List.set_cons_succ])
      refine perm_q (v := ?v1_11) (some 46) rfl rfl rfl ?q1_11 ?h1_11; (case q1_11 => (intro w' hS; obtain ⟨s1, s2, s3⟩ := hS; first | (go_simp; done) | (go_simp; rfl))); (try simp only [Act.put, List.setIfInBounds_toArray, List.set_cons_zero, List.set_cons_succ])
      refine perm_q (v := ?v1_12) (some 47) rfl rfl rfl ?q1_12 ?h1_12; (case q1_12 => (intro w' hS; obtain ⟨s1, s2, s3⟩ := hS; first | (go_simp; done) | (go_simp; rfl))); (try simp only [Act.put, List.setIfInBounds_toArray, List.set_cons_zero, List.set_cons_succ])
      refine perm_nil ?_
      go_wp2_with ((with_reducible refine at_store (t := 85) rfl ?_); go_must (refine ev_store (W := w3.drew) (cs' := #[.int .i64 k.value, .slice uA ul uc, .int .i64 E.rev, .int .i64 k.changed]) rfl rfl rfl rfl rfl rfl Hi85.out Hs85.out rfl Hb43.out (Nat.le_of_ble_eq_true rfl) rfl ?_; intro w4 hb4 hk4); (try simp only [Act.put, List.setIfInBounds_toArray, List.set_cons_zero, List.set_cons_succ]))
      have q0 := (blk_cell hb4 0).trans rfl
      have q1 := (blk_cell hb4 1).trans rfl
      have q2 := (blk_cell hb4 2).trans rfl
      have q3 := (blk_cell hb4 3).trans rfl
      refine bodyPost_ret (v := .agg #[.int .i64 k.value, .slice uA ul uc, .int .i64 E.rev, .int .i64 k.changed]) (by rw [results_cell1 rfl]; go_simp) rfl ?_
      rw [← HR.out]
      have hkk : Keeps Nob w w4 := HK.out.drew.own hk4 hg4
      exact ⟨X, wv, ⟨fun _ _ => Iff.rfl, hkk.mono (fun _ _ h => h.elim), .inl rfl, Hc.out.keep hkk (fun _ _ h => h)⟩, fun _ _ => Ho.out.keep hkk id, _, ⟨_, _, rfl, rfl⟩, rfl⟩
    · have hcb : (k.checked == E.rev) = false := by simpa using hch
      have Hwk := Lib.hid hwk
      have Hch := Lib.hid hch
      clear hwk hch
      refine wp_region_perm [(0, true), (1, true), (2, true), (3, true), (4, true), (5, true), (6, true), (7, true), (8, true), (9, true), (10, true), (11, true), (12, true)] (fun w' => w'.cell? ⟨g5, 2, none⟩ = some (.int .i64 k.checked) ∧ w'.cell? ⟨ab, 0, none⟩ = some (.pointer (some ⟨eb, 0, none⟩)) ∧ w'.cell? ⟨eb, 3, none⟩ = some (.int .i64 E.rev)) rfl (by kernel_rfl) (by kernel_rfl) (by decide) (fun c a d v w h => by cases d <;> exact h) ⟨f2, a0, b3⟩ ?_
      refine perm_q (v := ?v2_0) (some 35) rfl rfl rfl ?q2_0 ?h2_0; (case q2_0 => (intro w' hS; obtain ⟨s1, s2, s3⟩ := hS; first | (go_simp; done) | (go_simp; rfl))); (try simp only [Act.put, List.setIfInBounds_toArray, List.set_cons_zero, List.set_cons_succ])
      refine perm_q (v := ?v2_1) (some 36) rfl rfl rfl ?q2_1 ?h2_1; (case q2_1 => (intro w' hS; obtain ⟨s1, s2, s3⟩ := hS; first | (go_simp; done) | (go_simp; rfl))); (try simp only [Act.put, List.setIfInBounds_toArray, List.set_cons_zero, List.set_cons_succ])
      refine perm_q (v := ?v2_2) (some 37) rfl rfl rfl ?q2_2 ?h2_2; (case q2_2 => (intro w' hS; obtain ⟨s1, s2, s3⟩ := hS; first | (go_simp; done) | (go_simp; rfl))); (try simp only [Act.put, List.setIfInBounds_toArray, List.set_cons_zero, List.set_cons_succ])
      refine perm_q (v := ?v2_3) (some 38) rfl rfl rfl ?q2_3 ?h2_3; (case q2_3 => (intro w' hS; obtain ⟨s1, s2, s3⟩ := hS; first | (go_simp; done) | (go_simp; rfl))); (try simp only [Act.put, List.setIfInBounds_toArray, List.set_cons_zero, List.set_cons_succ])
      refine perm_q (v := ?v2_4) (some 39) rfl rfl rfl ?q2_4 ?h2_4; (case q2_4 => (intro w' hS; obtain ⟨s1, s2, s3⟩ := hS; first | (go_simp; done) | (go_simp; rfl))); (try simp only [Act.put, List.setIfInBounds_toArray, List.set_cons_zero, List.set_cons_succ])
      refine perm_q (v := ?v2_5) (some 40) rfl rfl rfl ?q2_5 ?h2_5; (case q2_5 => (intro w' hS; obtain ⟨s1, s2, s3⟩ := hS; first | (go_simp; done) | (go_simp; rfl))); (try simp only [Act.put, List.setIfInBounds_toArray, List.set_cons_zero, List.set_cons_succ])
      refine perm_q (v := ?v2_6) (some 41) rfl rfl rfl ?q2_6 ?h2_6; (case q2_6 => (intro w' hS; obtain ⟨s1, s2, s3⟩ := hS; first | (go_simp; done) | (go_simp; rfl))); (try simp only [Act.put, List.setIfInBounds_toArray, List.set_cons_zero, List.set_cons_succ])
      refine perm_q (v := ?v2_7) (some 42) rfl rfl rfl ?q2_7 ?h2_7; (case q2_7 => (intro w' hS; obtain ⟨s1, s2, s3⟩ := hS; first | (go_simp; done) | (go_simp; rfl))); (try simp only [Act.put, List.setIfInBounds_toArray, List.set_cons_zero, List.set_cons_succ])
      refine perm_q (v := ?v2_8) (some 43) rfl rfl rfl ?q2_8 ?h2_8; (case q2_8 => (intro w' hS; obtain ⟨s1, s2, s3⟩ := hS; first | (go_simp; done) | (go_simp; rfl))); (try simp only [Act.put, List.setIfInBounds_toArray, List.set_cons_zero, List.set_cons_succ])
      refine perm_q (v := ?v2_9) (some 44) rfl rfl rfl ?q2_9 ?h2_9; (case q2_9 => (intro w' hS; obtain ⟨s1, s2, s3⟩ := hS; first | (go_simp; done) | (go_simp; rfl))); (try simp only [Act.put, List.setIfInBounds_toArray, List.set_cons_zero, List.set_cons_succ])
      refine perm_q (v := ?v2_10) (some 45) rfl rfl rfl ?q2_10 ?h2_10; (case q2_10 => (intro w' hS; obtain ⟨s1, s2, s3⟩ := hS; first | (go_simp; done) | (go_simp; rfl))); (try simp only [Act.put, List.setIfInBounds_toArray, List.set_cons_zero, List.set_cons_succ])
      refine perm_q (v := ?v2_11) (some 46) rfl rfl rfl ?q2_11 ?h2_11; (case q2_11 => (intro w' hS; obtain ⟨s1, s2, s3⟩ := hS; first | (go_simp; done) | (go_simp; rfl))); (try simp only [Act.put, List.setIfInBounds_toArray, List.set_cons_zero, List.set_cons_succ])
      refine perm_q (v := ?v2_12) (some 47) rfl rfl rfl ?q2_12 ?h2_12; (case q2_12 => (intro w' hS; obtain ⟨s1, s2, s3⟩ := hS; first | (go_simp; done) | (go_simp; rfl))); (try simp only [Act.put, List.setIfInBounds_toArray, List.set_cons_zero, List.set_cons_succ])
      refine perm_nil ?_
      by_cases hon : (i : Int) ∈ on
      · have hR := HRR.out
        rw [if_pos hon] at hR
        have HR := Lib.hid hR
        have hlk := Hoq.out i
        rw [if_pos hon] at hlk
        have Hlk := Lib.hid hlk
        clear hR HRR hlk
        go_wp2_with ((with_reducible refine at_dst (N := 54) rfl ?_); go_must (refine ev_lookup_v (W := w3.drew) (q := (i : Int)) rfl rfl Tryd.underlying87 Tryd.underlying3 zero4 rfl rfl Hob3.out Hokey.out ?_; rw [Hlk.out, Option.getD_some]); (try simp only [Act.put, List.setIfInBounds_toArray, List.set_cons_zero, List.set_cons_succ]))
        refine ⟨rfl, ?_⟩
        rw [← HR.out]
        exact ⟨X, wv, ⟨fun _ _ => Iff.rfl, HK.out.drew.mono (fun _ _ h => h.elim), .inl rfl, Hc.out.keep HK.out.drew (fun _ _ h => h)⟩, fun _ h => (by cases h), rfl⟩
      · have hR := HRR.out
        rw [if_neg hon, Hwk.out] at hR
        simp only [if_neg Hch.out] at hR
        have HR0 := Lib.hid hR
        have hlk := Hoq.out i
        rw [if_neg hon] at hlk
        have Hlk := Lib.hid hlk
        clear hR HRR hlk
        go_wp2_with (first
          | ((with_reducible refine at_dst (N := 54) rfl ?_); go_must (refine ev_lookup_v (W := w3.drew) (q := (i : Int)) rfl rfl Tryd.underlying87 Tryd.underlying3 zero4 rfl rfl Hob3.out Hokey.out ?_; rw [Hlk.out, Option.getD_none]); (try simp only [Act.put, List.setIfInBounds_toArray, List.set_cons_zero, List.set_cons_succ]))
          | (refine at_update rfl ?_; go_must (refine ev_mapUpdate (W := w3.drew) (q := (i : Int)) (v := .bool true) rfl rfl rfl Tryd.underlying87 Tryd.underlying3 rfl rfl rfl Hob3.out Hokey.out ?_; intro es5 c5 w5 hb5 hkey5 hl5 hk5); have Hl5 := Lib.hid hl5; have Hb5 := Lib.hid hb5; clear hl5 hb5
             have f0 := hk5.cell (w := w3.drew) f0 g5o
             have f1 := hk5.cell (w := w3.drew) f1 g5o
             have f2 := hk5.cell (w := w3.drew) f2 g5o
             have f3 := hk5.cell (w := w3.drew) f3 g5o
             (try simp only [Act.put, List.setIfInBounds_toArray, List.set_cons_zero, List.set_cons_succ])))
        have hk5' : Keeps (· = ob) w3 w5 := (Keeps.refl (· = ob) w3).drew.trans hk5 (fun _ _ h => h)
        have hp5 := Hc3.out.wroteOpen hk5' Hb5.out
        have hpW0 : AskPost w X ab eb ib mb ob E wv s w5 X wv := AskPost.after (M := Nob) HK.out hp5 rfl
        have HP5 := Lib.hid hpW0
        have Ho5 := Lib.hid (OpenX.push (q := (i : Int)) Hob3.out Ho3.out Hb5.out hkey5 Hl5.out)
        have Hi5 := Lib.hid (Hi.out.open_ Hq.out hon (fun k' hk' => by
          have := Hwas.out.symm.trans hk'
          rw [Hwk.out] at this
          injection this with this
          subst this
          exact Hch.out))
        have hints5 := (Hints.out.keep HK.out (fun _ _ _ => id) (fun _ _ h => h)).keep (X' := X) hk5' (fun b _ hx e => Hc.out.xo (by rw [← e]; exact hx)) (fun _ _ h => h)
        have Hints5 := Lib.hid hints5
        have Hb55 := Lib.hid (hk5'.blk Hb3.out g5o)
        have Hb45 := Lib.hid (hk5'.blk Hb43.out g4o)
        have hkok := Hi.out.kok _ _ Hq.out (Hwas.out.trans Hwk.out)
        have hstale := stale_any HIH.out HG.out w5 X ab eb ib mb ob s wv k (.slice uA ul uc) HP5.out.core Ho5.out Hi5.out hkok Hints5.out
        have hgs := staleF_good HG.out k.checked k.asked s Hi5.out hkok.asked
        have hR0 := HR0.out
        rcases hst : staleF ask k.checked s k.asked with ⟨sW, r1⟩
        rw [hst] at hstale hgs hR0
        clear hst hk5 hk5' hp5 hpW0 hints5 hkey5 HR0
        have Hstale := Lib.hid hstale
        have Hgs := Lib.hid hgs
        have HR0 := Lib.hid hR0
        clear hstale hgs hR0 hkok
        cases r1 with
        | error c =>
          refine Hstale.out.mono ?_
          rintro e wz ⟨Xz, wvz, hpz, _, he⟩
          simp only [EndAs] at he
          subst he
          refine ⟨rfl, ?_⟩
          have hr := HR0.out
          simp only at hr
          rw [← hr]
          exact ⟨Xz, wvz, HP5.out.trans hpz, fun _ h => (by cases h), rfl⟩
        | ok bb =>
          refine Hstale.out.mono ?_
          rintro e wW ⟨X1, wv1, hp1, ho1, he⟩
          simp only [EndAs] at he
          obtain ⟨_, rfl, rfl⟩ := he
          have HpW := Lib.hid (HP5.out.trans hp1)
          have HoW := Lib.hid (ho1 _ rfl)
          have HiW := Lib.hid Hgs.out.inv
          have Hb5W := Lib.hid (hp1.blk Hb55.out (fun h => N5.out (.inl h)))
          have Hb4W := Lib.hid (hp1.blk Hb45.out (fun h => N4.out (.inl h)))
          have N5W := Lib.hid (hp1.notF (blk_lt Hb55.out) N5.out)
          have N4W := Lib.hid (hp1.notF (blk_lt Hb45.out) N4.out)
          have HinW := Lib.hid (hp1.ask Hints5.out HP5.out.core.notX)
          obtain ⟨a0, a1, a2, a3⟩ := HpW.out.core.cells
          obtain ⟨_, _, _, b0, b1, b2, b3, _⟩ := HpW.out.core.eng.cells
          have f0 := (blk_cell Hb5W.out 0).trans rfl
          have f1 := (blk_cell Hb5W.out 1).trans rfl
          have f2 := (blk_cell Hb5W.out 2).trans rfl
          have f3 := (blk_cell Hb5W.out 3).trans rfl
          have HalW := Lib.hid Hgs.out.inv.alen
          clear hp1 ho1
          cases bb with
          | true =>
            have HRW : Hid (workF E ask sW (i : Int) was = RR) := Lib.hid (by have h := HR0.out; simp only at h; rw [Hwk.out]; exact h)
            have hwork := work_any hE HIH.out HG.out wW X1 ab eb ib mb ob sW wv1 i was uA ul uc HpW.out.core HoW.out HiW.out Hq.out Hk.out
            rw [Hkd.out, Hsm'.out] at hwork
            have hgood := evalR_good hE HG.out (hE.rok _ (rule_mem Hq.out)) HiW.out
            have hRW := HRW.out
            unfold workF at hRW
            rcases hev : evalR ask sW (E.rule i) with ⟨s1, r1⟩
            rw [hev] at hwork hgood hRW
            cases r1 with
            | error c =>
              have hwork := hwork.mono (fun _ _ h => WorkPost.err h)
              (try simp only at hRW)
              have Hwork := Lib.hid hwork
              have HR := Lib.hid hRW
              clear hwork hRW hgood hev
              go_wp2_with (go_at_call 57; go_must (refine Hwork.out.mono ?_; rintro e wz ⟨Xz, wvz, hpz, rfl⟩))
              refine ⟨rfl, ?_⟩
              rw [← HR.out]
              exact ⟨Xz, wvz, HpW.out.trans hpz, fun _ h => (by cases h), rfl⟩
            | ok y =>
              obtain ⟨yv, yasked⟩ := y
              (try simp only at hRW)
              by_cases hm : E.most ≤ s1.done.length
              · rw [if_pos hm] at hRW
                have hwork := hwork.mono (fun _ _ h => WorkPost.stop hm h)
                have Hwork := Lib.hid hwork
                have HR := Lib.hid hRW
                clear hwork hRW hgood hev hm
                go_wp2_with (go_at_call 57; go_must (refine Hwork.out.mono ?_; rintro e wz ⟨Xz, wvz, hpz, rfl⟩))
                refine ⟨rfl, ?_⟩
                rw [← HR.out]
                exact ⟨Xz, wvz, HpW.out.trans hpz, fun _ h => (by cases h), rfl⟩
              · rw [if_neg hm] at hRW
                have hwork := hwork.mono (fun _ _ h => WorkPost.fine hm h)
                have Halz : Hid (({ s1 with done := s1.done ++ [(i : Int)] } : PS).ans.length = E.rules.length) := Lib.hid hgood.1.inv.alen
                generalize hsz : ({ s1 with done := s1.done ++ [(i : Int)] } : PS) = sz at *
                obtain ⟨ych, hych⟩ : ∃ x, chOf E.rev was yv = x := ⟨_, rfl⟩
                rw [hych] at hwork hRW
                have HR := Lib.hid hRW
                have Hwork := Lib.hid hwork
                clear hwork hRW hgood hev hm hsz hych
                go_wp2_with (first
                  | (go_at_call 57; go_must (refine Hwork.out.mono ?_; rintro e wz ⟨Xz, wvz, uz, hpz, hoz, hinz, rfl⟩; obtain ⟨yA, yc, rfl, _, _⟩ := id hinz); have Hpz := Lib.hid hpz; have Hoz := Lib.hid hoz; have Hinz := Lib.hid hinz; clear hpz hoz hinz; (try simp only [Act.put, List.setIfInBounds_toArray, List.set_cons_zero, List.set_cons_succ]))
                  | ((with_reducible refine at_store (t := 85) rfl ?_); go_must (refine ev_store (cs' := #[.int .i64 yv, .slice yA yasked.length yc, .int .i64 E.rev, .int .i64 ych]) rfl rfl rfl rfl rfl rfl Hi85.out Hs85.out rfl (Hpz.out.blk Hb5W.out (fun h => N5W.out (.inl h))) (Nat.le_of_ble_eq_true rfl) rfl ?_; intro wy hby hky); have Hby := Lib.hid hby; clear hby; (try simp only [Act.put, List.setIfInBounds_toArray, List.set_cons_zero, List.set_cons_succ])))
                have N5y := Lib.hid (Hpz.out.notF (blk_lt Hb5W.out) N5W.out)
                have N4y := Lib.hid (Hpz.out.notF (blk_lt Hb4W.out) N4W.out)
                have Hpy := Lib.hid ((HpW.out.trans Hpz.out).then hky (fun i _ e => by omega) (Hpz.out.core.keepF hky (fun k _ e => by subst e; exact N5y.out)))
                have Hoy := Lib.hid (Hoz.out.keep hky (fun e => N5y.out (.inl (.inr (.inl e.symm)))))
                have Hiny := Lib.hid (Hinz.out.keep (X' := Xz) hky (fun b _ hx e => N5y.out (.inr (.inr (.inr (by subst e; exact hx))))) (fun _ _ h => h))
                have Hb4y := Lib.hid (hky.blk (Hpz.out.blk Hb4W.out (fun h => N4W.out (.inl h))) (by show g4 ≠ g5; omega))
                have Hb5y := Hby
                clear hky Hinz Hoz Hpz
                obtain ⟨a0, a1, a2, a3⟩ := Hpy.out.core.cells
                obtain ⟨_, _, _, b0, b1, b2, b3, _⟩ := Hpy.out.core.eng.cells
                obtain ⟨ey, cy, hmby, hkeyy, _, _⟩ := id Hpy.out.core.eng.ans
                obtain ⟨oy, ocy, hoby, hokeyy, _⟩ := id Hoy.out
                obtain ⟨m1, m2, m3, m4, m5⟩ := Hpy.out.core.mbFar
                obtain ⟨o1, o2, o3, o4, o5⟩ := Hpy.out.core.obFar
                have f0 := (blk_cell Hb5y.out 0).trans rfl
                have f1 := (blk_cell Hb5y.out 1).trans rfl
                have f2 := (blk_cell Hb5y.out 2).trans rfl
                have f3 := (blk_cell Hb5y.out 3).trans rfl
                have g5m : g5 ≠ mb := fun e => N5y.out (.inl (.inr (.inr (.inl e))))
                have g5o : g5 ≠ ob := fun e => N5y.out (.inl (.inr (.inl e)))
                have g4m : g4 ≠ mb := fun e => N4y.out (.inl (.inr (.inr (.inl e))))
                have g4o : g4 ≠ ob := fun e => N4y.out (.inl (.inr (.inl e)))
                have Hmby := Lib.hid hmby
                have Hkeyy := Lib.hid hkeyy
                have Hoby := Lib.hid hoby
                have Hokeyy := Lib.hid hokeyy
                clear hmby hkeyy hoby hokeyy a2 a3 b0 b1 b3
                refine wp_region_perm [(0, true), (1, true), (2, true), (3, true), (4, true), (5, true), (6, true), (7, true), (8, true), (9, false)] (fun w' => w'.cell? ⟨ab, 0, none⟩ = some (.pointer (some ⟨eb, 0, none⟩)) ∧ w'.cell? ⟨eb, 2, none⟩ = some (.map (some mb)) ∧ w'.cell? ⟨g5, 0, none⟩ = some (.int .i64 yv) ∧ w'.cell? ⟨g5, 1, none⟩ = some (.slice yA yasked.length yc) ∧ w'.cell? ⟨g5, 2, none⟩ = some (.int .i64 E.rev) ∧ w'.cell? ⟨g5, 3, none⟩ = some (.int .i64 ych)) rfl (by kernel_rfl) (by kernel_rfl) (by decide) (fun c a d v w h => by cases d <;> exact h) ⟨a0, b2, f0, f1, f2, f3⟩ ?_
                refine perm_q (v := ?v3_0) (some 81) rfl rfl rfl ?q3_0 ?h3_0; (case q3_0 => (intro w' hS; obtain ⟨s1, s2, s3, s4, s5, s6⟩ := hS; first | (go_simp; done) | (go_simp; rfl))); (try simp only [Act.put, List.setIfInBounds_toArray, List.set_cons_zero, List.set_cons_succ])
                refine perm_q (v := ?v3_1) (some 82) rfl rfl rfl ?q3_1 ?h3_1; (case q3_1 => (intro w' hS; obtain ⟨s1, s2, s3, s4, s5, s6⟩ := hS; first | (go_simp; done) | (go_simp; rfl))); (try simp only [Act.put, List.setIfInBounds_toArray, List.set_cons_zero, List.set_cons_succ])
                refine perm_q (v := ?v3_2) (some 83) rfl rfl rfl ?q3_2 ?h3_2; (case q3_2 => (intro w' hS; obtain ⟨s1, s2, s3, s4, s5, s6⟩ := hS; first | (go_simp; done) | (go_simp; rfl))); (try simp only [Act.put, List.setIfInBounds_toArray, List.set_cons_zero, List.set_cons_succ])
                refine perm_q (v := ?v3_3) (some 84) rfl rfl rfl ?q3_3 ?h3_3; (case q3_3 => (intro w' hS; obtain ⟨s1, s2, s3, s4, s5, s6⟩ := hS; first | (go_simp; done) | (go_simp; rfl))); (try simp only [Act.put, List.setIfInBounds_toArray, List.set_cons_zero, List.set_cons_succ])
                refine perm_q (v := ?v3_4) (some 85) rfl rfl rfl ?q3_4 ?h3_4; (case q3_4 => (intro w' hS; obtain ⟨s1, s2, s3, s4, s5, s6⟩ := hS; first | (go_simp; done) | (go_simp; rfl))); (try simp only [Act.put, List.setIfInBounds_toArray, List.set_cons_zero, List.set_cons_succ])
                refine perm_q (v := ?v3_5) (some 86) rfl rfl rfl ?q3_5 ?h3_5; (case q3_5 => (intro w' hS; obtain ⟨s1, s2, s3, s4, s5, s6⟩ := hS; first | (go_simp; done) | (go_simp; rfl))); (try simp only [Act.put, List.setIfInBounds_toArray, List.set_cons_zero, List.set_cons_succ])
                refine perm_q (v := ?v3_6) (some 87) rfl rfl rfl ?q3_6 ?h3_6; (case q3_6 => (intro w' hS; obtain ⟨s1, s2, s3, s4, s5, s6⟩ := hS; first | (go_simp; done) | (go_simp; rfl))); (try simp only [Act.put, List.setIfInBounds_toArray, List.set_cons_zero, List.set_cons_succ])
                refine perm_q (v := ?v3_7) (some 88) rfl rfl rfl ?q3_7 ?h3_7; (case q3_7 => (intro w' hS; obtain ⟨s1, s2, s3, s4, s5, s6⟩ := hS; first | (go_simp; done) | (go_simp; rfl))); (try simp only [Act.put, List.setIfInBounds_toArray, List.set_cons_zero, List.set_cons_succ])
                refine perm_q (v := ?v3_8) (some 89) rfl rfl rfl ?q3_8 ?h3_8; (case q3_8 => (intro w' hS; obtain ⟨s1, s2, s3, s4, s5, s6⟩ := hS; first | (go_simp; done) | (go_simp; rfl))); (try simp only [Act.put, List.setIfInBounds_toArray, List.set_cons_zero, List.set_cons_succ])
                refine perm_e rfl ?_   -- 9: mapUpdate 61 t87 t88 t89
                go_must (refine ev_mapUpdate rfl rfl rfl Tryd.underlying61 Tryd.underlying3 (q := (i : Int)) (v := .agg #[.int .i64 yv, .slice yA yasked.length yc, .int .i64 E.rev, .int .i64 ych]) rfl rfl rfl Hmby.out Hkeyy.out ?_; intro es6 c6 w6 hb6 hkey6 hl6 hk6)
                refine wpList_nil ⟨⟨hk6.cell (w := wy.drew) a0 (fun e => m1 e.symm), hk6.cell (w := wy.drew) b2 (fun e => m2 e.symm), hk6.cell (w := wy.drew) f0 g5m, hk6.cell (w := wy.drew) f1 g5m, hk6.cell (w := wy.drew) f2 g5m, hk6.cell (w := wy.drew) f3 g5m⟩, ?_⟩
                refine perm_nil ?_
                have hk6' : Keeps (· = mb) wy w6 := (Keeps.refl (· = mb) wy).drew.trans hk6 (fun _ _ h => h)
                have hp6 := Hpy.out.core.wroteAns (k := ⟨yv, yasked, E.rev, ych⟩) hk6' Hmby.out hb6 hkey6 hl6 Hiny.out Hq.out Halz.out
                have hob6 := hk6'.blk Hoby.out (fun e => o4 e)
                have a1 := hk6'.cell a1 (fun e => m1 e.symm)
                have f0 := hk6'.cell f0 g5m
                have f1 := hk6'.cell f1 g5m
                have f2 := hk6'.cell f2 g5m
                have f3 := hk6'.cell f3 g5m
                have hb46 := hk6'.blk Hb4y.out g4m
                have ho6 := Hoy.out.keep hk6' (fun e => o4 e)
                have Hp6 := Lib.hid hp6
                have Hob6 := Lib.hid hob6
                have Hb46 := Lib.hid hb46
                have Ho6 := Lib.hid ho6
                clear hk6 hk6' hp6 hob6 hb46 ho6 hb6 hkey6 hl6
                go_wp2_with (first
                  | (refine at_delete rfl ?_; go_must (refine ev_delete (q := (i : Int)) rfl rfl rfl Tryd.underlying87 Tryd.underlying3 rfl rfl Hob6.out Hokeyy.out ?_; intro es7 c7 w7 hb7 hkey7 hl7 hk7); have Hl7 := Lib.hid hl7; clear hl7; have Hb7 := Lib.hid hb7; clear hb7
                     have f0 := hk7.cell f0 g5o
                     have f1 := hk7.cell f1 g5o
                     have f2 := hk7.cell f2 g5o
                     have f3 := hk7.cell f3 g5o
                     (try simp only [Act.put, List.setIfInBounds_toArray, List.set_cons_zero, List.set_cons_succ]))
                  | ((with_reducible refine at_store (t := 85) rfl ?_); go_must (refine ev_store (cs' := #[.int .i64 yv, .slice yA yasked.length yc, .int .i64 E.rev, .int .i64 ych]) rfl rfl rfl rfl rfl rfl Hi85.out Hs85.out rfl (hk7.blk Hb46.out g4o) (Nat.le_of_ble_eq_true rfl) rfl ?_; intro w8 hb8 hk8); (try simp only [Act.put, List.setIfInBounds_toArray, List.set_cons_zero, List.set_cons_succ])))
                have q0 := (blk_cell hb8 0).trans rfl
                have q1 := (blk_cell hb8 1).trans rfl
                have q2 := (blk_cell hb8 2).trans rfl
                have q3 := (blk_cell hb8 3).trans rfl
                refine bodyPost_ret (v := .agg #[.int .i64 yv, .slice yA yasked.length yc, .int .i64 E.rev, .int .i64 ych]) (by rw [results_cell1 rfl]; go_simp) rfl ?_
                rw [← HR.out]
                have hp7 := Hp6.out.core.wroteOpen hk7 Hb7.out
                have hc8 := hp7.core.keepF hk8 (fun k _ e => by subst e; exact N4y.out)
                exact ⟨Xz, wvz, (((Hpy.out.trans Hp6.out).trans hp7).then hk8 (fun i _ e => by omega) hc8), fun _ _ => (OpenX.pop Hob6.out Ho6.out hon Hb7.out hkey7 Hl7.out).keep hk8 (fun e => g4o e.symm), _, ⟨_, _, rfl, rfl⟩, rfl⟩
          | false =>
            have HR : Hid ((sW.set (i : Int) ⟨k.value, k.asked, E.rev, k.changed⟩, Except.ok (k.value, k.changed)) = RR) := Lib.hid (by have h := HR0.out; simp only at h; exact h)
            go_wp2_with ((with_reducible refine at_store (t := 3) rfl ?_); go_must (refine ev_store (cs' := #[.int .i64 k.value, .slice uA ul uc, .int .i64 E.rev, .int .i64 k.changed]) rfl rfl rfl rfl rfl rfl Hi3.out Hs3.out rfl Hb5W.out (Nat.le_of_ble_eq_true rfl) rfl ?_; intro wy hby hky); have Hb5y := Lib.hid hby; clear hby; (try simp only [Act.put, List.setIfInBounds_toArray, List.set_cons_zero, List.set_cons_succ]))
            have Hpy := Lib.hid (HpW.out.then hky (fun i _ e => by omega) (HpW.out.core.keepF hky (fun k _ e => by subst e; exact N5W.out)))
            have Hoy := Lib.hid (HoW.out.keep hky (fun e => N5W.out (.inl (.inr (.inl e.symm)))))
            have Hiny := Lib.hid (HinW.out.keep (X' := X1) hky (fun b _ hx e => N5W.out (.inr (.inr (.inr (by subst e; exact hx))))) (fun _ _ h => h))
            have Hb4y := Lib.hid (hky.blk Hb4W.out (by show g4 ≠ g5; omega))
            have N5y := N5W
            have N4y := N4W
            have Halz := HalW
            clear hky
            obtain ⟨a0, a1, a2, a3⟩ := Hpy.out.core.cells
            obtain ⟨_, _, _, b0, b1, b2, b3, _⟩ := Hpy.out.core.eng.cells
            obtain ⟨ey, cy, hmby, hkeyy, _, _⟩ := id Hpy.out.core.eng.ans
            obtain ⟨oy, ocy, hoby, hokeyy, _⟩ := id Hoy.out
            obtain ⟨m1, m2, m3, m4, m5⟩ := Hpy.out.core.mbFar
            obtain ⟨o1, o2, o3, o4, o5⟩ := Hpy.out.core.obFar
            have f0 := (blk_cell Hb5y.out 0).trans rfl
            have f1 := (blk_cell Hb5y.out 1).trans rfl
            have f2 := (blk_cell Hb5y.out 2).trans rfl
            have f3 := (blk_cell Hb5y.out 3).trans rfl
            have g5m : g5 ≠ mb := fun e => N5y.out (.inl (.inr (.inr (.inl e))))
            have g5o : g5 ≠ ob := fun e => N5y.out (.inl (.inr (.inl e)))
            have g4m : g4 ≠ mb := fun e => N4y.out (.inl (.inr (.inr (.inl e))))
            have g4o : g4 ≠ ob := fun e => N4y.out (.inl (.inr (.inl e)))
            have Hmby := Lib.hid hmby
            have Hkeyy := Lib.hid hkeyy
            have Hoby := Lib.hid hoby
            have Hokeyy := Lib.hid hokeyy
            clear hmby hkeyy hoby hokeyy a2 a3 b0 b1 b3
            refine wp_region_perm [(0, true), (1, true), (2, true), (3, true), (4, true), (5, true), (6, true), (7, true), (8, true), (9, false)] (fun w' => w'.cell? ⟨ab, 0, none⟩ = some (.pointer (some ⟨eb, 0, none⟩)) ∧ w'.cell? ⟨eb, 2, none⟩ = some (.map (some mb)) ∧ w'.cell? ⟨g5, 0, none⟩ = some (.int .i64 k.value) ∧ w'.cell? ⟨g5, 1, none⟩ = some (.slice uA ul uc) ∧ w'.cell? ⟨g5, 2, none⟩ = some (.int .i64 E.rev) ∧ w'.cell? ⟨g5, 3, none⟩ = some (.int .i64 k.changed)) rfl (by kernel_rfl) (by kernel_rfl) (by decide) (fun c a d v w h => by cases d <;> exact h) ⟨a0, b2, f0, f1, f2, f3⟩ ?_
            refine perm_q (v := ?v4_0) (some 81) rfl rfl rfl ?q4_0 ?h4_0; (case q4_0 => (intro w' hS; obtain ⟨s1, s2, s3, s4, s5, s6⟩ := hS; first | (go_simp; done) | (go_simp; rfl))); (try simp only [Act.put, List.setIfInBounds_toArray, List.set_cons_zero, List.set_cons_succ])
            refine perm_q (v := ?v4_1) (some 82) rfl rfl rfl ?q4_1 ?h4_1; (case q4_1 => (intro w' hS; obtain ⟨s1, s2, s3, s4, s5, s6⟩ := hS; first | (go_simp; done) | (go_simp; rfl))); (try simp only [Act.put, List.setIfInBounds_toArray, List.set_cons_zero, List.set_cons_succ])
            refine perm_q (v := ?v4_2) (some 83) rfl rfl rfl ?q4_2 ?h4_2; (case q4_2 => (intro w' hS; obtain ⟨s1, s2, s3, s4, s5, s6⟩ := hS; first | (go_simp; done) | (go_simp; rfl))); (try simp only [Act.put, List.setIfInBounds_toArray, List.set_cons_zero, List.set_cons_succ])
            refine perm_q (v := ?v4_3) (some 84) rfl rfl rfl ?q4_3 ?h4_3; (case q4_3 => (intro w' hS; obtain ⟨s1, s2, s3, s4, s5, s6⟩ := hS; first | (go_simp; done) | (go_simp; rfl))); (try simp only [Act.put, List.setIfInBounds_toArray, List.set_cons_zero, List.set_cons_succ])
            refine perm_q (v := ?v4_4) (some 85) rfl rfl rfl ?q4_4 ?h4_4; (case q4_4 => (intro w' hS; obtain ⟨s1, s2, s3, s4, s5, s6⟩ := hS; first | (go_simp; done) | (go_simp; rfl))); (try simp only [Act.put, List.setIfInBounds_toArray, List.set_cons_zero, List.set_cons_succ])
            refine perm_q (v := ?v4_5) (some 86) rfl rfl rfl ?q4_5 ?h4_5; (case q4_5 => (intro w' hS; obtain ⟨s1, s2, s3, s4, s5, s6⟩ := hS; first | (go_simp; done) | (go_simp; rfl))); (try simp only [Act.put, List.setIfInBounds_toArray, List.set_cons_zero, List.set_cons_succ])
            refine perm_q (v := ?v4_6) (some 87) rfl rfl rfl ?q4_6 ?h4_6; (case q4_6 => (intro w' hS; obtain ⟨s1, s2, s3, s4, s5, s6⟩ := hS; first | (go_simp; done) | (go_simp; rfl))); (try simp only [Act.put, List.setIfInBounds_toArray, List.set_cons_zero, List.set_cons_succ])
            refine perm_q (v := ?v4_7) (some 88) rfl rfl rfl ?q4_7 ?h4_7; (case q4_7 => (intro w' hS; obtain ⟨s1, s2, s3, s4, s5, s6⟩ := hS; first | (go_simp; done) | (go_simp; rfl))); (try simp only [Act.put, List.setIfInBounds_toArray, List.set_cons_zero, List.set_cons_succ])
            refine perm_q (v := ?v4_8) (some 89) rfl rfl rfl ?q4_8 ?h4_8; (case q4_8 => (intro w' hS; obtain ⟨s1, s2, s3, s4, s5, s6⟩ := hS; first | (go_simp; done) | (go_simp; rfl))); (try simp only [Act.put, List.setIfInBounds_toArray, List.set_cons_zero, List.set_cons_succ])
            refine perm_e rfl ?_   -- 9: mapUpdate 61 t87 t88 t89
            go_must (refine ev_mapUpdate rfl rfl rfl Tryd.underlying61 Tryd.underlying3 (q := (i : Int)) (v := .agg #[.int .i64 k.value, .slice uA ul uc, .int .i64 E.rev, .int .i64 k.changed]) rfl rfl rfl Hmby.out Hkeyy.out ?_; intro es6 c6 w6 hb6 hkey6 hl6 hk6)
            refine wpList_nil ⟨⟨hk6.cell (w := wy.drew) a0 (fun e => m1 e.symm), hk6.cell (w := wy.drew) b2 (fun e => m2 e.symm), hk6.cell (w := wy.drew) f0 g5m, hk6.cell (w := wy.drew) f1 g5m, hk6.cell (w := wy.drew) f2 g5m, hk6.cell (w := wy.drew) f3 g5m⟩, ?_⟩
            refine perm_nil ?_
            have hk6' : Keeps (· = mb) wy w6 := (Keeps.refl (· = mb) wy).drew.trans hk6 (fun _ _ h => h)
            have hp6 := Hpy.out.core.wroteAns (k := ⟨k.value, k.asked, E.rev, k.changed⟩) hk6' Hmby.out hb6 hkey6 hl6 Hiny.out Hq.out Halz.out
            have hob6 := hk6'.blk Hoby.out (fun e => o4 e)
            have a1 := hk6'.cell a1 (fun e => m1 e.symm)
            have f0 := hk6'.cell f0 g5m
            have f1 := hk6'.cell f1 g5m
            have f2 := hk6'.cell f2 g5m
            have f3 := hk6'.cell f3 g5m
            have hb46 := hk6'.blk Hb4y.out g4m
            have ho6 := Hoy.out.keep hk6' (fun e => o4 e)
            have Hp6 := Lib.hid hp6
            have Hob6 := Lib.hid hob6
            have Hb46 := Lib.hid hb46
            have Ho6 := Lib.hid ho6
            clear hk6 hk6' hp6 hob6 hb46 ho6 hb6 hkey6 hl6
            go_wp2_with (first
              | (refine at_delete rfl ?_; go_must (refine ev_delete (q := (i : Int)) rfl rfl rfl Tryd.underlying87 Tryd.underlying3 rfl rfl Hob6.out Hokeyy.out ?_; intro es7 c7 w7 hb7 hkey7 hl7 hk7); have Hl7 := Lib.hid hl7; clear hl7; have Hb7 := Lib.hid hb7; clear hb7
                 have f0 := hk7.cell f0 g5o
                 have f1 := hk7.cell f1 g5o
                 have f2 := hk7.cell f2 g5o
                 have f3 := hk7.cell f3 g5o
                 (try simp only [Act.put, List.setIfInBounds_toArray, List.set_cons_zero, List.set_cons_succ]))
              | ((with_reducible refine at_store (t := 85) rfl ?_); go_must (refine ev_store (cs' := #[.int .i64 k.value, .slice uA ul uc, .int .i64 E.rev, .int .i64 k.changed]) rfl rfl rfl rfl rfl rfl Hi85.out Hs85.out rfl (hk7.blk Hb46.out g4o) (Nat.le_of_ble_eq_true rfl) rfl ?_; intro w8 hb8 hk8); (try simp only [Act.put, List.setIfInBounds_toArray, List.set_cons_zero, List.set_cons_succ])))
            have q0 := (blk_cell hb8 0).trans rfl
            have q1 := (blk_cell hb8 1).trans rfl
            have q2 := (blk_cell hb8 2).trans rfl
            have q3 := (blk_cell hb8 3).trans rfl
            refine bodyPost_ret (v := .agg #[.int .i64 k.value, .slice uA ul uc, .int .i64 E.rev, .int .i64 k.changed]) (by rw [results_cell1 rfl]; go_simp) rfl ?_
            rw [← HR.out]
            have hp7 := Hp6.out.core.wroteOpen hk7 Hb7.out
            have hc8 := hp7.core.keepF hk8 (fun k _ e => by subst e; exact N4y.out)
            exact ⟨X1, wv1, (((Hpy.out.trans Hp6.out).trans hp7).then hk8 (fun i _ e => by omega) hc8), fun _ _ => (OpenX.pop Hob6.out Ho6.out hon Hb7.out hkey7 Hl7.out).keep hk8 (fun e => g4o e.symm), _, ⟨_, _, rfl, rfl⟩, rfl⟩
  | false =>
    have hwk : was = none := by
      have h1 := Hsm'.out
      cases hw : was with
      | none => rfl
      | some x => rw [hw] at h1; cases h1
    have Hwk := Lib.hid hwk
    clear hwk
    refine wp_region_perm [(0, true), (1, true), (2, true), (3, true), (4, true), (5, true), (6, true), (7, true), (8, true), (9, true), (10, true), (11, true), (12, true)] (fun w' => w'.cell? ⟨g5, 2, none⟩ = some (.int .i64 k.checked) ∧ w'.cell? ⟨ab, 0, none⟩ = some (.pointer (some ⟨eb, 0, none⟩)) ∧ w'.cell? ⟨eb, 3, none⟩ = some (.int .i64 E.rev)) rfl (by kernel_rfl) (by kernel_rfl) (by decide) (fun c a d v w h => by cases d <;> exact h) ⟨f2, a0, b3⟩ ?_
    refine perm_q (v := ?v5_0) (some 35) rfl rfl rfl ?q5_0 ?h5_0; (case q5_0 => (intro w' hS; obtain ⟨s1, s2, s3⟩ := hS; first | (go_simp; done) | (go_simp; rfl))); (try simp only [Act.put, List.setIfInBounds_toArray, List.set_cons_zero, List.set_cons_succ])
    refine perm_q (v := ?v5_1) (some 36) rfl rfl rfl ?q5_1 ?h5_1; (case q5_1 => (intro w' hS; obtain ⟨s1, s2, s3⟩ := hS; first | (go_simp; done) | (go_simp; rfl))); (try simp only [Act.put, List.setIfInBounds_toArray, List.set_cons_zero, List.set_cons_succ])
    refine perm_skip (some 37) rfl rfl rfl ?_; (try simp only [Act.put, List.setIfInBounds_toArray, List.set_cons_zero, List.set_cons_succ])
    refine perm_skip (some 38) rfl rfl rfl ?_; (try simp only [Act.put, List.setIfInBounds_toArray, List.set_cons_zero, List.set_cons_succ])
    refine perm_skip (some 39) rfl rfl rfl ?_; (try simp only [Act.put, List.setIfInBounds_toArray, List.set_cons_zero, List.set_cons_succ])
    refine perm_skip (some 40) rfl rfl rfl ?_; (try simp only [Act.put, List.setIfInBounds_toArray, List.set_cons_zero, List.set_cons_succ])
    refine perm_skip (some 41) rfl rfl rfl ?_; (try simp only [Act.put, List.setIfInBounds_toArray, List.set_cons_zero, List.set_cons_succ])
    refine perm_skip (some 42) rfl rfl rfl ?_; (try simp only [Act.put, List.setIfInBounds_toArray, List.set_cons_zero, List.set_cons_succ])
    refine perm_skip (some 43) rfl rfl rfl ?_; (try simp only [Act.put, List.setIfInBounds_toArray, List.set_cons_zero, List.set_cons_succ])
    refine perm_skip (some 44) rfl rfl rfl ?_; (try simp only [Act.put, List.setIfInBounds_toArray, List.set_cons_zero, List.set_cons_succ])
    refine perm_skip (some 45) rfl rfl rfl ?_; (try simp only [Act.put, List.setIfInBounds_toArray, List.set_cons_zero, List.set_cons_succ])
    refine perm_skip (some 46) rfl rfl rfl ?_; (try simp only [Act.put, List.setIfInBounds_toArray, List.set_cons_zero, List.set_cons_succ])
    refine perm_q (v := ?v5_12) (some 47) rfl rfl rfl ?q5_12 ?h5_12; (case q5_12 => (intro w' hS; obtain ⟨s1, s2, s3⟩ := hS; first | (go_simp; done) | (go_simp; rfl))); (try simp only [Act.put, List.setIfInBounds_toArray, List.set_cons_zero, List.set_cons_succ])
    refine perm_nil ?_
    by_cases hon : (i : Int) ∈ on
    · have hR := HRR.out
      rw [if_pos hon] at hR
      have HR := Lib.hid hR
      have hlk := Hoq.out i
      rw [if_pos hon] at hlk
      have Hlk := Lib.hid hlk
      clear hR HRR hlk
      go_wp2_with ((with_reducible refine at_dst (N := 54) rfl ?_); go_must (refine ev_lookup_v (W := w3.drew) (q := (i : Int)) rfl rfl Tryd.underlying87 Tryd.underlying3 zero4 rfl rfl Hob3.out Hokey.out ?_; rw [Hlk.out, Option.getD_some]); (try simp only [Act.put, List.setIfInBounds_toArray, List.set_cons_zero, List.set_cons_succ]))
      refine ⟨rfl, ?_⟩
      rw [← HR.out]
      exact ⟨X, wv, ⟨fun _ _ => Iff.rfl, HK.out.drew.mono (fun _ _ h => h.elim), .inl rfl, Hc.out.keep HK.out.drew (fun _ _ h => h)⟩, fun _ h => (by cases h), rfl⟩
    · have hR := HRR.out
      rw [if_neg hon, Hwk.out] at hR
      simp only at hR
      have HRW : Hid (workF E ask s (i : Int) was = RR) := Lib.hid (by rw [Hwk.out]; exact hR)
      have hlk := Hoq.out i
      rw [if_neg hon] at hlk
      have Hlk := Lib.hid hlk
      clear hR HRR hlk
      go_wp2_with (first
        | ((with_reducible refine at_dst (N := 54) rfl ?_); go_must (refine ev_lookup_v (W := w3.drew) (q := (i : Int)) rfl rfl Tryd.underlying87 Tryd.underlying3 zero4 rfl rfl Hob3.out Hokey.out ?_; rw [Hlk.out, Option.getD_none]); (try simp only [Act.put, List.setIfInBounds_toArray, List.set_cons_zero, List.set_cons_succ]))
        | (refine at_update rfl ?_; go_must (refine ev_mapUpdate (W := w3.drew) (q := (i : Int)) (v := .bool true) rfl rfl rfl Tryd.underlying87 Tryd.underlying3 rfl rfl rfl Hob3.out Hokey.out ?_; intro es5 c5 w5 hb5 hkey5 hl5 hk5); have Hl5 := Lib.hid hl5; have Hb5 := Lib.hid hb5; clear hl5 hb5
           have f0 := hk5.cell (w := w3.drew) f0 g5o
           have f1 := hk5.cell (w := w3.drew) f1 g5o
           have f2 := hk5.cell (w := w3.drew) f2 g5o
           have f3 := hk5.cell (w := w3.drew) f3 g5o
           (try simp only [Act.put, List.setIfInBounds_toArray, List.set_cons_zero, List.set_cons_succ])))
      have hk5' : Keeps (· = ob) w3 w5 := (Keeps.refl (· = ob) w3).drew.trans hk5 (fun _ _ h => h)
      have hp5 := Hc3.out.wroteOpen hk5' Hb5.out
      have hpW0 : AskPost w X ab eb ib mb ob E wv s w5 X wv := AskPost.after (M := Nob) HK.out hp5 rfl
      have HpW := Lib.hid hpW0
      have HoW := Lib.hid (OpenX.push (q := (i : Int)) Hob3.out Ho3.out Hb5.out hkey5 Hl5.out)
      have HiW := Lib.hid (Hi.out.open_ Hq.out hon (fun k' hk' => by
        have := Hwas.out.symm.trans hk'
        rw [Hwk.out] at this
        cases this))
      have Hb5W := Lib.hid (hk5'.blk Hb3.out g5o)
      have Hb4W := Lib.hid (hk5'.blk Hb43.out g4o)
      obtain ⟨wW, hwW⟩ : ∃ x, w5 = x := ⟨_, rfl⟩
      have N5W := N5
      have N4W := N4
      clear hk5 hk5' hp5 hpW0 hkey5
      have hwork := work_any hE HIH.out HG.out w5 X ab eb ib mb ob s wv i was uA ul uc HpW.out.core HoW.out HiW.out Hq.out Hk.out
      rw [Hkd.out, Hsm'.out] at hwork
      have hgood := evalR_good hE HG.out (hE.rok _ (rule_mem Hq.out)) HiW.out
      have hRW := HRW.out
      unfold workF at hRW
      rcases hev : evalR ask s (E.rule i) with ⟨s1, r1⟩
      rw [hev] at hwork hgood hRW
      cases r1 with
      | error c =>
        have hwork := hwork.mono (fun _ _ h => WorkPost.err h)
        (try simp only at hRW)
        have Hwork := Lib.hid hwork
        have HR := Lib.hid hRW
        clear hwork hRW hgood hev
        go_wp2_with (go_at_call 57; go_must (refine Hwork.out.mono ?_; rintro e wz ⟨Xz, wvz, hpz, rfl⟩))
        refine ⟨rfl, ?_⟩
        rw [← HR.out]
        exact ⟨Xz, wvz, HpW.out.trans hpz, fun _ h => (by cases h), rfl⟩
      | ok y =>
        obtain ⟨yv, yasked⟩ := y
        (try simp only at hRW)
        by_cases hm : E.most ≤ s1.done.length
        · rw [if_pos hm] at hRW
          have hwork := hwork.mono (fun _ _ h => WorkPost.stop hm h)
          have Hwork := Lib.hid hwork
          have HR := Lib.hid hRW
          clear hwork hRW hgood hev hm
          go_wp2_with (go_at_call 57; go_must (refine Hwork.out.mono ?_; rintro e wz ⟨Xz, wvz, hpz, rfl⟩))
          refine ⟨rfl, ?_⟩
          rw [← HR.out]
          exact ⟨Xz, wvz, HpW.out.trans hpz, fun _ h => (by cases h), rfl⟩
        · rw [if_neg hm] at hRW
          have hwork := hwork.mono (fun _ _ h => WorkPost.fine hm h)
          have Halz : Hid (({ s1 with done := s1.done ++ [(i : Int)] } : PS).ans.length = E.rules.length) := Lib.hid hgood.1.inv.alen
          generalize hsz : ({ s1 with done := s1.done ++ [(i : Int)] } : PS) = sz at *
          obtain ⟨ych, hych⟩ : ∃ x, chOf E.rev was yv = x := ⟨_, rfl⟩
          rw [hych] at hwork hRW
          have HR := Lib.hid hRW
          have Hwork := Lib.hid hwork
          clear hwork hRW hgood hev hm hsz hych
          go_wp2_with (first
            | (go_at_call 57; go_must (refine Hwork.out.mono ?_; rintro e wz ⟨Xz, wvz, uz, hpz, hoz, hinz, rfl⟩; obtain ⟨yA, yc, rfl, _, _⟩ := id hinz); have Hpz := Lib.hid hpz; have Hoz := Lib.hid hoz; have Hinz := Lib.hid hinz; clear hpz hoz hinz; (try simp only [Act.put, List.setIfInBounds_toArray, List.set_cons_zero, List.set_cons_succ]))
            | ((with_reducible refine at_store (t := 85) rfl ?_); go_must (refine ev_store (cs' := #[.int .i64 yv, .slice yA yasked.length yc, .int .i64 E.rev, .int .i64 ych]) rfl rfl rfl rfl rfl rfl Hi85.out Hs85.out rfl (Hpz.out.blk Hb5W.out (fun h => N5W.out (.inl h))) (Nat.le_of_ble_eq_true rfl) rfl ?_; intro wy hby hky); have Hby := Lib.hid hby; clear hby; (try simp only [Act.put, List.setIfInBounds_toArray, List.set_cons_zero, List.set_cons_succ])))
          have N5y := Lib.hid (Hpz.out.notF (blk_lt Hb5W.out) N5W.out)
          have N4y := Lib.hid (Hpz.out.notF (blk_lt Hb4W.out) N4W.out)
          have Hpy := Lib.hid ((HpW.out.trans Hpz.out).then hky (fun i _ e => by omega) (Hpz.out.core.keepF hky (fun k _ e => by subst e; exact N5y.out)))
          have Hoy := Lib.hid (Hoz.out.keep hky (fun e => N5y.out (.inl (.inr (.inl e.symm)))))
          have Hiny := Lib.hid (Hinz.out.keep (X' := Xz) hky (fun b _ hx e => N5y.out (.inr (.inr (.inr (by subst e; exact hx))))) (fun _ _ h => h))
          have Hb4y := Lib.hid (hky.blk (Hpz.out.blk Hb4W.out (fun h => N4W.out (.inl h))) (by show g4 ≠ g5; omega))
          have Hb5y := Hby
          clear hky Hinz Hoz Hpz
          obtain ⟨a0, a1, a2, a3⟩ := Hpy.out.core.cells
          obtain ⟨_, _, _, b0, b1, b2, b3, _⟩ := Hpy.out.core.eng.cells
          obtain ⟨ey, cy, hmby, hkeyy, _, _⟩ := id Hpy.out.core.eng.ans
          obtain ⟨oy, ocy, hoby, hokeyy, _⟩ := id Hoy.out
          obtain ⟨m1, m2, m3, m4, m5⟩ := Hpy.out.core.mbFar
          obtain ⟨o1, o2, o3, o4, o5⟩ := Hpy.out.core.obFar
          have f0 := (blk_cell Hb5y.out 0).trans rfl
          have f1 := (blk_cell Hb5y.out 1).trans rfl
          have f2 := (blk_cell Hb5y.out 2).trans rfl
          have f3 := (blk_cell Hb5y.out 3).trans rfl
          have g5m : g5 ≠ mb := fun e => N5y.out (.inl (.inr (.inr (.inl e))))
          have g5o : g5 ≠ ob := fun e => N5y.out (.inl (.inr (.inl e)))
          have g4m : g4 ≠ mb := fun e => N4y.out (.inl (.inr (.inr (.inl e))))
          have g4o : g4 ≠ ob := fun e => N4y.out (.inl (.inr (.inl e)))
          have Hmby := Lib.hid hmby
          have Hkeyy := Lib.hid hkeyy
          have Hoby := Lib.hid hoby
          have Hokeyy := Lib.hid hokeyy
          clear hmby hkeyy hoby hokeyy a2 a3 b0 b1 b3
          refine wp_region_perm [(0, true), (1, true), (2, true), (3, true), (4, true), (5, true), (6, true), (7, true), (8, true), (9, false)] (fun w' => w'.cell? ⟨ab, 0, none⟩ = some (.pointer (some ⟨eb, 0, none⟩)) ∧ w'.cell? ⟨eb, 2, none⟩ = some (.map (some mb)) ∧ w'.cell? ⟨g5, 0, none⟩ = some (.int .i64 yv) ∧ w'.cell? ⟨g5, 1, none⟩ = some (.slice yA yasked.length yc) ∧ w'.cell? ⟨g5, 2, none⟩ = some (.int .i64 E.rev) ∧ w'.cell? ⟨g5, 3, none⟩ = some (.int .i64 ych)) rfl (by kernel_rfl) (by kernel_rfl) (by decide) (fun c a d v w h => by cases d <;> exact h) ⟨a0, b2, f0, f1, f2, f3⟩ ?_
          refine perm_q (v := ?v6_0) (some 81) rfl rfl rfl ?q6_0 ?h6_0; (case q6_0 => (intro w' hS; obtain ⟨s1, s2, s3, s4, s5, s6⟩ := hS; first | (go_simp; done) | (go_simp; rfl))); (try simp only [Act.put, List.setIfInBounds_toArray, List.set_cons_zero, List.set_cons_succ])
          refine perm_q (v := ?v6_1) (some 82) rfl rfl rfl ?q6_1 ?h6_1; (case q6_1 => (intro w' hS; obtain ⟨s1, s2, s3, s4, s5, s6⟩ := hS; first | (go_simp; done) | (go_simp; rfl))); (try simp only [Act.put, List.setIfInBounds_toArray, List.set_cons_zero, List.set_cons_succ])
          refine perm_q (v := ?v6_2) (some 83) rfl rfl rfl ?q6_2 ?h6_2; (case q6_2 => (intro w' hS; obtain ⟨s1, s2, s3, s4, s5, s6⟩ := hS; first | (go_simp; done) | (go_simp; rfl))); (try simp only [Act.put, List.setIfInBounds_toArray, List.set_cons_zero, List.set_cons_succ])
          refine perm_q (v := ?v6_3) (some 84) rfl rfl rfl ?q6_3 ?h6_3; (case q6_3 => (intro w' hS; obtain ⟨s1, s2, s3, s4, s5, s6⟩ := hS; first | (go_simp; done) | (go_simp; rfl))); (try simp only [Act.put, List.setIfInBounds_toArray, List.set_cons_zero, List.set_cons_succ])
          refine perm_q (v := ?v6_4) (some 85) rfl rfl rfl ?q6_4 ?h6_4; (case q6_4 => (intro w' hS; obtain ⟨s1, s2, s3, s4, s5, s6⟩ := hS; first | (go_simp; done) | (go_simp; rfl))); (try simp only [Act.put, List.setIfInBounds_toArray, List.set_cons_zero, List.set_cons_succ])
          refine perm_q (v := ?v6_5) (some 86) rfl rfl rfl ?q6_5 ?h6_5; (case q6_5 => (intro w' hS; obtain ⟨s1, s2, s3, s4, s5, s6⟩ := hS; first | (go_simp; done) | (go_simp; rfl))); (try simp only [Act.put, List.setIfInBounds_toArray, List.set_cons_zero, List.set_cons_succ])
          refine perm_q (v := ?v6_6) (some 87) rfl rfl rfl ?q6_6 ?h6_6; (case q6_6 => (intro w' hS; obtain ⟨s1, s2, s3, s4, s5, s6⟩ := hS; first | (go_simp; done) | (go_simp; rfl))); (try simp only [Act.put, List.setIfInBounds_toArray, List.set_cons_zero, List.set_cons_succ])
          refine perm_q (v := ?v6_7) (some 88) rfl rfl rfl ?q6_7 ?h6_7; (case q6_7 => (intro w' hS; obtain ⟨s1, s2, s3, s4, s5, s6⟩ := hS; first | (go_simp; done) | (go_simp; rfl))); (try simp only [Act.put, List.setIfInBounds_toArray, List.set_cons_zero, List.set_cons_succ])
          refine perm_q (v := ?v6_8) (some 89) rfl rfl rfl ?q6_8 ?h6_8; (case q6_8 => (intro w' hS; obtain ⟨s1, s2, s3, s4, s5, s6⟩ := hS; first | (go_simp; done) | (go_simp; rfl))); (try simp only [Act.put, List.setIfInBounds_toArray, List.set_cons_zero, List.set_cons_succ])
          refine perm_e rfl ?_   -- 9: mapUpdate 61 t87 t88 t89
          go_must (refine ev_mapUpdate rfl rfl rfl Tryd.underlying61 Tryd.underlying3 (q := (i : Int)) (v := .agg #[.int .i64 yv, .slice yA yasked.length yc, .int .i64 E.rev, .int .i64 ych]) rfl rfl rfl Hmby.out Hkeyy.out ?_; intro es6 c6 w6 hb6 hkey6 hl6 hk6)
          refine wpList_nil ⟨⟨hk6.cell (w := wy.drew) a0 (fun e => m1 e.symm), hk6.cell (w := wy.drew) b2 (fun e => m2 e.symm), hk6.cell (w := wy.drew) f0 g5m, hk6.cell (w := wy.drew) f1 g5m, hk6.cell (w := wy.drew) f2 g5m, hk6.cell (w := wy.drew) f3 g5m⟩, ?_⟩
          refine perm_nil ?_
          have hk6' : Keeps (· = mb) wy w6 := (Keeps.refl (· = mb) wy).drew.trans hk6 (fun _ _ h => h)
          have hp6 := Hpy.out.core.wroteAns (k := ⟨yv, yasked, E.rev, ych⟩) hk6' Hmby.out hb6 hkey6 hl6 Hiny.out Hq.out Halz.out
          have hob6 := hk6'.blk Hoby.out (fun e => o4 e)
          have a1 := hk6'.cell a1 (fun e => m1 e.symm)
          have f0 := hk6'.cell f0 g5m
          have f1 := hk6'.cell f1 g5m
          have f2 := hk6'.cell f2 g5m
          have f3 := hk6'.cell f3 g5m
          have hb46 := hk6'.blk Hb4y.out g4m
          have ho6 := Hoy.out.keep hk6' (fun e => o4 e)
          have Hp6 := Lib.hid hp6
          have Hob6 := Lib.hid hob6
          have Hb46 := Lib.hid hb46
          have Ho6 := Lib.hid ho6
          clear hk6 hk6' hp6 hob6 hb46 ho6 hb6 hkey6 hl6
          go_wp2_with (first
            | (refine at_delete rfl ?_; go_must (refine ev_delete (q := (i : Int)) rfl rfl rfl Tryd.underlying87 Tryd.underlying3 rfl rfl Hob6.out Hokeyy.out ?_; intro es7 c7 w7 hb7 hkey7 hl7 hk7); have Hl7 := Lib.hid hl7; clear hl7; have Hb7 := Lib.hid hb7; clear hb7
               have f0 := hk7.cell f0 g5o
               have f1 := hk7.cell f1 g5o
               have f2 := hk7.cell f2 g5o
               have f3 := hk7.cell f3 g5o
               (try simp only [Act.put, List.setIfInBounds_toArray, List.set_cons_zero, List.set_cons_succ]))
            | ((with_reducible refine at_store (t := 85) rfl ?_); go_must (refine ev_store (cs' := #[.int .i64 yv, .slice yA yasked.length yc, .int .i64 E.rev, .int .i64 ych]) rfl rfl rfl rfl rfl rfl Hi85.out Hs85.out rfl (hk7.blk Hb46.out g4o) (Nat.le_of_ble_eq_true rfl) rfl ?_; intro w8 hb8 hk8); (try simp only [Act.put, List.setIfInBounds_toArray, List.set_cons_zero, List.set_cons_succ])))
          have q0 := (blk_cell hb8 0).trans rfl
          have q1 := (blk_cell hb8 1).trans rfl
          have q2 := (blk_cell hb8 2).trans rfl
          have q3 := (blk_cell hb8 3).trans rfl
          refine bodyPost_ret (v := .agg #[.int .i64 yv, .slice yA yasked.length yc, .int .i64 E.rev, .int .i64 ych]) (by rw [results_cell1 rfl]; go_simp) rfl ?_
          rw [← HR.out]
          have hp7 := Hp6.out.core.wroteOpen hk7 Hb7.out
          have hc8 := hp7.core.keepF hk8 (fun k _ e => by subst e; exact N4y.out)
          exact ⟨Xz, wvz, (((Hpy.out.trans Hp6.out).trans hp7).then hk8 (fun i _ e => by omega) hc8), fun _ _ => (OpenX.pop Hob6.out Ho6.out hon Hb7.out hkey7 Hl7.out).keep hk8 (fun e => g4o e.symm), _, ⟨_, _, rfl, rfl⟩, rfl⟩
end Go.Proofs.QW

/-
  Ask whole, in memory: nested askings by depth, the deferred function that turns a stop into an error, and Ask. No condition.
-/
namespace Go.Proofs.QW
open Go.RowKit Go.Proofs.KL Go.Proofs.QM
set_option maxRecDepth 100000
set_option linter.unusedSimpArgs false
set_option linter.unusedVariables false

def onlyNormal (Q : Exit → Act → World → Prop) : Exit → Act → World → Prop
  | .normal, a, w => Q .normal a w
  | _, _, _ => False
/-- The same where the function defers: the region does not end by a panic. -/
theorem wp_region_perm_np {P : Program} {Q : Exit → Act → World → Prop} {id : Nat} {l : List Oper} {a : Act} {w : World} (π : List (Nat × Bool)) (S : World → Prop) (hm : P.follows .mixedOrders = true) (hs : Region.noSelect l.toArray = true)
    (hB : permB .any l.toArray π (Array.replicate l.toArray.size false) = true) (hl : π.length ≤ l.toArray.size)
    (hS : S w.drew) (h : wpPerm P l.toArray (onlyNormal Q) S π a w.drew) : (Code.region id l.toArray true).wp P Q a w :=
  Code.wp_mono (fun e a w h => by cases e <;> first | exact h | exact h.elim) (wp_region_perm (Q := onlyNormal Q) π S hm hs hB hl (fun _ _ _ _ _ h => h.elim) hS h)
theorem perm_nil_np {P : Program} {ops : Array Oper} {Q : Exit → Act → World → Prop} {S : World → Prop} {a : Act} {w : World} (h : Q .normal a w) : wpPerm P ops (onlyNormal Q) S [] a w := h
theorem info25 : ∃ i, Tryd.prog.info? 25 = some i ∧ i.size = 1 := by
  have h : (Tryd.prog.info? 25).map (·.size) = some 1 := by kernel_rfl
  obtain ⟨i, hi, hs⟩ := Option.map_eq_some_iff.1 h
  exact ⟨i, hi, hs⟩
/-- ASK COMES TO THE MODEL'S, however deep. -/
theorem ask_all {E : Env} (hE : EnvOk E) : ∀ (f : Nat) (on : List Int), E.rules.length + 1 ≤ f + on.length → AskOK E on (askF E f on)
  | 0, on, h => fun w X ab eb ib mb ob s wv q hc ho hi hq => by
    have := hi.onlen
    omega
  | f + 1, on, h => fun w X ab eb ib mb ob s wv q hc ho hi hq => by
    by_cases hk : (E.rule q).kind = 1
    · have := ask_input hE w X ab eb ib mb ob s wv q hc ho hq hk
      unfold askF
      rw [if_pos hk]
      exact this
    · exact ask_rest hE w X ab eb ib mb ob s wv q (ask_all hE f (q :: on) (by simp; omega)) hc ho hi hq hk

theorem Ask_idle (p q r t : Addr) (w : World) :
    CallsD Tryd.prog 39 #[.pointer (some p), .pointer (some q), .pointer (some r), .pointer (some t)] .returning w fun e u' w' => e = .returned (.tuple #[]) ∧ u' = .returning ∧ w' = w := by
  have hnn : ∀ w, (binOp .neq 20 .nilIface .nilIface).run Tryd.prog w = .ok (.bool false) w := fun w => by kernel_rfl
  refine callsD_of_wpS Tryd.func39 rfl fun c₀ cs hu => ?_
  apply wpS_seq
  apply wpS_region
  simp [wpOpsS, go_sem, recoverD, hu, hnn, Tryd.ntmps39, Exit.thenS]
  apply wpS_seq
  apply wpS_region
  simp [wpOpsS, go_sem, hnn, Exit.thenS]
  refine wpS_cond (t := false) (by simp [Act.eval, Array.replicate]) ?_
  simp only [Bool.false_eq_true, if_false]
  refine wpS_of_wp (wp_skip ?_)
  cases c₀
  simp_all [bodyPostS, results, Tryd.results39]
theorem neq_ended (c : Int) (w : World) : (binOp .neq 20 (.iface 90 (.int .i64 c)) .nilIface).run Tryd.prog w = .ok (.bool true) w := by kernel_rfl
theorem assert_ended (c : Int) (w : World) : (Instr.typeAssert (.iface 90 (.int .i64 c)) 20 90 true).run Tryd.prog w = .ok (.tuple #[.int .i64 c, .bool true]) w := by
  have h := Tryd.underlying90
  first | kernel_rfl | (simp [Instr.typeAssert, run_underlying h])
set_option maxHeartbeats 2000000 in
theorem Ask_catch (g10 g6 g7 g8 ab : Nat) (wv : Value) (A : Option Addr) (n cp : Nat) (c : Int) (w : World) (x6 x7 x8 : Value)
    (h10 : w.cell? ⟨g10, 0, none⟩ = some (.pointer (some ⟨ab, 0, none⟩))) (hab : w.cell? ⟨ab, 2, none⟩ = some (.slice A n cp))
    (h6 : w.heap[g6]? = some (.cells #[x6] 3 (0, 0))) (h7 : w.heap[g7]? = some (.cells #[x7] 23 (0, 0))) (h8 : w.heap[g8]? = some (.cells #[x8] 25 (0, 0))) (n67 : g6 ≠ g7) (n68 : g6 ≠ g8) (n78 : g7 ≠ g8) :
    CallsD Tryd.prog 39 #[.pointer (some ⟨g10, 0, none⟩), .pointer (some ⟨g6, 0, none⟩), .pointer (some ⟨g7, 0, none⟩), .pointer (some ⟨g8, 0, none⟩)] (.panicking [{ v := .iface 90 (.int .i64 c), recovered := false }]) w fun e u' w' =>
      e = .returned (.tuple #[]) ∧ u' = .panicking [{ v := .iface 90 (.int .i64 c), recovered := true }] ∧ Keeps (fun k => k = g6 ∨ k = g7 ∨ k = g8) w w' ∧
        w'.heap[g6]? = some (.cells #[.int .i64 0] 3 (0, 0)) ∧ w'.heap[g7]? = some (.cells #[.slice A n cp] 23 (0, 0)) ∧ w'.heap[g8]? = some (.cells #[.int .i64 c] 25 (0, 0)) := by
  obtain ⟨i3, hi3, hs3⟩ := infoS3
  obtain ⟨i23, hi23, hs23⟩ := info23
  obtain ⟨i25, hi25, hs25⟩ := info25
  have H6 := Lib.hid h6
  have H7 := Lib.hid h7
  have H8 := Lib.hid h8
  have hi := Lib.hid (And.intro (And.intro hi3 hs3) (And.intro (And.intro hi23 hs23) (And.intro hi25 hs25)))
  clear h6 h7 h8 hi3 hs3 hi23 hs23 hi25 hs25
  refine callsD_of_wpS Tryd.func39 rfl fun c₀ cs hu => ?_
  apply wpS_seq
  apply wpS_region
  simp [wpOpsS, go_sem, neq_ended, assert_ended, recoverD, hu, Tryd.ntmps39, Exit.thenS]
  apply wpS_seq
  apply wpS_region
  simp [wpOpsS, go_sem, neq_ended, assert_ended, Exit.thenS]
  refine wpS_cond (t := true) (by simp [Act.eval, Array.replicate]) ?_
  simp only [if_true]
  apply wpS_seq
  apply wpS_region
  simp [wpOpsS, go_sem, neq_ended, assert_ended, Exit.thenS]
  apply wpS_seq
  apply wpS_seq
  apply wpS_region
  simp [wpOpsS, go_sem, neq_ended, assert_ended, Exit.thenS]
  refine wpS_cond (t := false) (by simp [Act.eval, Array.replicate]) ?_
  simp only [Bool.false_eq_true, if_false]
  refine wpS_of_wp (wp_skip ?_)
  simp only [Exit.thenS]
  refine wpS_of_wp ?_
  simp only [Array.replicate_succ, Array.replicate_zero, List.push_toArray, List.append_toArray, List.nil_append, List.cons_append, List.setIfInBounds_toArray, List.set_cons_zero, List.set_cons_succ]
  go_wp2_with (first
    | ((with_reducible refine at_store (t := 3) rfl ?_); go_must (refine ev_store (cs' := #[.int .i64 0]) rfl rfl rfl rfl rfl rfl hi.out.1.1 hi.out.1.2 rfl H6.out (Nat.le_of_ble_eq_true rfl) rfl ?_; intro w1 hb1 hk1); (try simp only [Act.put, List.setIfInBounds_toArray, List.set_cons_zero, List.set_cons_succ]))
    | ((with_reducible refine at_store (t := 23) rfl ?_); go_must (refine ev_store (cs' := #[.slice A n cp]) rfl rfl rfl rfl rfl rfl hi.out.2.1.1 hi.out.2.1.2 rfl (hk1.blk H7.out n67.symm) (Nat.le_of_ble_eq_true rfl) rfl ?_; intro w2 hb2 hk2); (try simp only [Act.put, List.setIfInBounds_toArray, List.set_cons_zero, List.set_cons_succ]))
    | ((with_reducible refine at_store (t := 25) rfl ?_); go_must (refine ev_store (cs' := #[.int .i64 c]) rfl rfl rfl rfl rfl rfl hi.out.2.2.1 hi.out.2.2.2 rfl (hk2.blk (hk1.blk H8.out n68.symm) n78.symm) (Nat.le_of_ble_eq_true rfl) rfl ?_; intro w3 hb3 hk3); (try simp only [Act.put, List.setIfInBounds_toArray, List.set_cons_zero, List.set_cons_succ])))
  exact ⟨rfl, _, rfl, _, by simp [results, Tryd.results39], rfl, rfl, ((hk1.mono (M' := fun k => k = g6 ∨ k = g7 ∨ k = g8) (fun _ _ e => .inl e)).trans hk2 (fun _ _ e => .inr (.inl e))).trans hk3 (fun _ _ e => .inr (.inr e)), hk3.blk (hk2.blk hb1 n67) n68, hk3.blk hb2 n78, hb3⟩

/-- What Ask comes to. -/
def AskEnd (w : World) (X : Nat → Prop) (eb ib mb : Nat) (E : Env) (r : PS × Except Int (Int × Int)) (e : Ending) (w' : World) : Prop :=
  ∃ X' wl, e = .returned (.tuple #[.int .i64 (match r.2 with | .ok x => x.1 | .error _ => 0), wl, .int .i64 (match r.2 with | .ok _ => 0 | .error c => c)]) ∧ (∀ b, b < w.heap.size → (X' b ↔ X b)) ∧ (∀ k, X' k → k < w'.heap.size) ∧ Keeps (· = mb) w w' ∧ EngAt w' X' eb ib mb E r.1.ans ∧
    w'.ownsRow 0 3 1 wl r.1.done.length (r.1.done.map (Value.int .i64)) ∧ ∀ b, wl.ownBlock = some b → w.heap.size ≤ b ∧ ¬ X' b
theorem AskEnd.of {w w7 w8 w9 : World} {X X' : Nat → Prop} {ab eb ib mb ob : Nat} {E : Env} {s1 : PS} {wv' : Value} {M : Nat → Prop} {r : PS × Except Int (Int × Int)} {e : Ending} (hxl : ∀ k, X k → k < w.heap.size) (HK : Keeps Nob w w7) (hab : w.heap.size ≤ ab) (hob : w.heap.size ≤ ob)
    (hp : AskPost w7 X ab eb ib mb ob E (.slice none 0 0) s1 w8 X' wv') (hk : Keeps M w8 w9) (hM : ∀ k, M k → w.heap.size ≤ k ∧ k < w7.heap.size) (leb : eb < w.heap.size) (lib : ib < w.heap.size) (lmb : mb < w.heap.size) (hr : r.1 = s1)
    (he : e = .returned (.tuple #[.int .i64 (match r.2 with | .ok x => x.1 | .error _ => 0), wv', .int .i64 (match r.2 with | .ok _ => 0 | .error c => c)])) : AskEnd w X eb ib mb E r e w9 := by
  have hs := HK.size
  have hrow : ∀ b, wv'.ownBlock = some b → w7.heap.size ≤ b := fun b hb => by
    rcases hp.row with h | ⟨b', h, hl⟩
    · rw [h] at hb; cases hb
    · rw [h] at hb; injection hb with hb; omega
  refine ⟨X', wv', he, fun b hb => hp.xx b (by omega), fun k hx => Nat.lt_of_lt_of_le (hp.core.xl k hx) hk.size, ((HK.mono (fun _ _ h => h.elim)).trans hp.keep (fun i hi hm => ?_)).trans hk (fun i hi hm => absurd hi (by have := hM i hm; omega)), ?_, ?_, fun b hb => ⟨by have := hrow b hb; omega, hp.core.xw b hb⟩⟩
  · rcases hm with hm | hm | hm | hm
    · omega
    · omega
    · exact hm
    · cases hm
  · rw [hr]
    refine hp.core.eng.keep hk (fun h => by have := hM _ h; omega) (fun h => by have := hM _ h; omega) (fun h => by have := hM _ h; omega) (fun b _ hx hm => ?_) (fun _ _ => Iff.rfl)
    have h1 := hM b hm
    have := hxl b ((hp.xx b h1.2).1 hx)
    omega
  · rw [hr]
    exact ownsRow_keep hp.core.own hk (fun b hb hm => by have := hM b hm; have := hrow b hb; omega)
theorem zero23 : (Tryd.prog.info? 23).map (·.zero) = some (some (.slice none 0 0)) := by kernel_rfl
theorem zero25 : (Tryd.prog.info? 25).map (·.zero) = some (some (.int .i64 0)) := by kernel_rfl
theorem zero86 : (Tryd.prog.info? 86).map (·.zero) = some (some (.pointer none)) := by kernel_rfl
theorem info86 : ∃ i, Tryd.prog.info? 86 = some i ∧ i.size = 1 := by
  have h : (Tryd.prog.info? 86).map (·.size) = some 1 := by kernel_rfl
  obtain ⟨i, hi, hs⟩ := Option.map_eq_some_iff.1 h
  exact ⟨i, hi, hs⟩
theorem results_cells3 {fn : Func} {p q r : Tmp} {t u v : TypeId} (h : fn.results = #[.cell p t, .cell q u, .cell r v]) (tmps : Array Value) {P : Program} (w : World) {x y z : Value} {a b c : Addr} (ha : tmps[p]?.getD undef = .pointer (some a)) (hb : tmps[q]?.getD undef = .pointer (some b)) (hc : tmps[r]?.getD undef = .pointer (some c))
    (hp : (loadVar t a).run P w = .ok x w) (hq : (loadVar u b).run P w = .ok y w) (hr : (loadVar v c).run P w = .ok z w) :
    (results fn tmps).run P w = .ok (.tuple #[x, y, z]) w := by
  have e : ∀ (a : Addr) (w : World), (asAddr (.pointer (some a))).run P w = .ok a w := fun _ _ => rfl
  simp [results, h, ha, hb, hc, e, hp, hq, hr, Result.andThen]
set_option maxHeartbeats 2000000 in
theorem Ask_any {E : Env} (hE : EnvOk E) (w : World) (X : Nat → Prop) (eb ib mb : Nat) (ans : List (Option KeptR)) (q : Int) (he : EngAt w X eb ib mb E ans) (hxl : ∀ k, X k → k < w.heap.size)
    (hi : PInv E [] ⟨ans, []⟩) (hq : InQ E q) :
    Calls Tryd.prog 18 #[.pointer (some ⟨eb, 0, none⟩), .int .i64 q, .int .i64 E.most] w (AskEnd w X eb ib mb E (askF E (E.rules.length + 1) [] ⟨ans, []⟩ q)) := by
  have hrun0 := ask_all hE (E.rules.length + 1) [] (by simp)
  have hgood := askF_good hE (E.rules.length + 1) [] ⟨ans, []⟩ q hi hq
  generalize askF E (E.rules.length + 1) [] = ask at *
  obtain ⟨A, cc, cc', b0, b1, b2, b3, hrx⟩ := he.cells
  obtain ⟨i3, hi3, hs3⟩ := infoS3
  obtain ⟨i23, hi23, hs23⟩ := info23
  obtain ⟨i25, hi25, hs25⟩ := info25
  obtain ⟨i85, hi85, hs85⟩ := info85
  obtain ⟨i86, hi86, hs86⟩ := info86
  have hE0 : isErr E.rules.length q = 0 := if_neg (by have := hq.1; have := hq.2; omega)
  have h200 := hE.len
  have hm0 : ¬ E.most < 0 := by have := hE.most0; omega
  have leb := World.block_lt_of_cell? _ _ b0
  have lmb : mb < w.heap.size := by obtain ⟨es, c, hb, _⟩ := he.ans; exact blk_lt hb
  have lib : ib < w.heap.size := by obtain ⟨cs, hb, _⟩ := he.inp; exact blk_lt hb
  dsimp only at leb
  have HI := Lib.hid (And.intro (And.intro hi3 hs3) (And.intro (And.intro hi23 hs23) (And.intro (And.intro hi25 hs25) (And.intro (And.intro hi85 hs85) (And.intro hi86 hs86)))))
  have HRun := Lib.hid hrun0
  have HGood := Lib.hid hgood
  have He := Lib.hid he
  have Hxl := Lib.hid hxl
  have Hi := Lib.hid hi
  have Hq := Lib.hid hq
  have HE := Lib.hid hE
  have HE0 := Lib.hid hE0
  clear hi3 hs3 hi23 hs23 hi25 hs25 hi85 hs85 hi86 hs86 hrun0 hgood he hxl hi hq hE hE0 hrx b1 b3
  have hmf : ∀ (fn : Fn) (first cap : Array Value) (w : World), (Instr.makeFunc fn first cap).run Tryd.prog w = .ok (.func fn first cap) w := fun _ _ _ _ => rfl
  go_enter_defers Tryd.func18, Tryd.ntmps18
  go_wp2_with (first
    | ((with_reducible refine at_dst (N := 6) rfl ?_); go_must (refine ev_alloc rfl rfl zero3 rfl ?_; intro g6 w1 hg6 hl6 hb6 hk1); have Hb6 := Lib.hid hb6; clear hb6; (try simp only [Act.put, List.setIfInBounds_toArray, List.set_cons_zero, List.set_cons_succ]))
    | ((with_reducible refine at_dst (N := 7) rfl ?_); go_must (refine ev_alloc rfl rfl zero23 rfl ?_; intro g7 w2 hg7 hl7 hb7 hk2); have Hb7 := Lib.hid hb7; clear hb7; (try simp only [Act.put, List.setIfInBounds_toArray, List.set_cons_zero, List.set_cons_succ]))
    | ((with_reducible refine at_dst (N := 8) rfl ?_); go_must (refine ev_alloc rfl rfl zero25 rfl ?_; intro g8 w3 hg8 hl8 hb8 hk3); have Hb8 := Lib.hid hb8; clear hb8
       have b0 := hk3.cell (hk2.cell (hk1.cell b0 id) id) id
       have b2 := hk3.cell (hk2.cell (hk1.cell b2 id) id) id
       (try simp only [Act.put, List.setIfInBounds_toArray, List.set_cons_zero, List.set_cons_succ]))
    | (go_at_call 38; go_must (refine (is_some eb mb q A E.rules.length cc w3 b2 b0 h200).mono ?_; rintro e w' ⟨rfl, rfl⟩; rw [HE0.out]))
    | ((with_reducible refine at_dst (N := 23) rfl ?_); go_must (refine ev_makeMap rfl rfl ?_; intro ob w4 hgo hlo hbo hk4); have Hbo := Lib.hid hbo; clear hbo; (try simp only [Act.put, List.setIfInBounds_toArray, List.set_cons_zero, List.set_cons_succ]))
    | ((with_reducible refine at_dst (N := 26) rfl ?_); go_must (refine ev_box (cs := #[.pointer (some ⟨eb, 0, none⟩), .map (some ob), .slice none 0 0, .int .i64 E.most]) rfl rfl rfl ?_; intro ab w5 hga hla hba hk5); have Hba := Lib.hid hba; clear hba; (try simp only [Act.put, List.setIfInBounds_toArray, List.set_cons_zero, List.set_cons_succ]))
    | ((with_reducible refine at_dst (N := 10) rfl ?_); go_must (refine ev_alloc rfl rfl zero86 rfl ?_; intro g10 w6 hg10 hl10 hb10 hk6); have Hb10 := Lib.hid hb10; clear hb10; (try simp only [Act.put, List.setIfInBounds_toArray, List.set_cons_zero, List.set_cons_succ]))
    | ((with_reducible refine at_store (t := 86) rfl ?_); go_must (refine ev_store (cs' := #[.pointer (some ⟨ab, 0, none⟩)]) rfl rfl rfl rfl rfl rfl HI.out.2.2.2.2.1 HI.out.2.2.2.2.2 rfl Hb10.out (Nat.le_of_ble_eq_true rfl) rfl ?_; intro w7 hb7 hk7); have Hb107 := Lib.hid hb7; have c10 := (blk_cell hb7 0).trans rfl; clear hb7; (try simp only [Act.put, List.setIfInBounds_toArray, List.set_cons_zero, List.set_cons_succ])))
  have z1 := hk1.size
  have z2 := hk2.size
  have z3 := hk3.size
  have z4 := hk4.size
  have z5 := hk5.size
  have z6 := hk6.size
  have z7 := hk7.size
  have h13 : Keeps Nob w w3 := (hk1.trans hk2 (fun _ _ h => h)).trans hk3 (fun _ _ h => h)
  have h46 : Keeps Nob w3 w6 := (hk4.trans hk5 (fun _ _ h => h)).trans hk6 (fun _ _ h => h)
  have h37 : Keeps Nob w3 w7 := h46.own hk7 (by omega)
  have h07 : Keeps Nob w w7 := h13.trans h37 (fun _ _ h => h)
  have b6 := h37.blk (hk3.blk (hk2.blk Hb6.out id) id) id
  have b7 := h37.blk (hk3.blk Hb7.out id) id
  have b8 := h37.blk Hb8.out id
  have bo := hk7.blk (hk6.blk (hk5.blk Hbo.out id) id) (by show ob ≠ g10; omega)
  have ba := hk7.blk (hk6.blk Hba.out id) (by show ab ≠ g10; omega)
  have hx := Hxl.out
  have hc7 : AskC w7 X ab eb ib mb ob E ⟨ans, []⟩ (.slice none 0 0) := ⟨ba, He.out.keep h07 id id id (fun _ _ _ => id) (fun _ _ => Iff.rfl), ⟨_, _, bo⟩, ⟨rfl, .inl ⟨rfl, rfl⟩⟩, fun h => by have := hx _ h; omega, fun h => by have := hx _ h; omega, fun b hb => (by cases hb), by omega, fun k hk => by have := hx _ hk; omega⟩
  have ho7 : OpenX w7 ob [] := ⟨#[], 0, bo, ⟨by simp, by simp⟩, fun q => by simp [mlook_nil]⟩
  have hrun := HRun.out w7 X ab eb ib mb ob ⟨ans, []⟩ (.slice none 0 0) q hc7 ho7 Hi.out Hq.out
  have hM : ∀ k, k ≠ ab → k ≠ ob → k ≠ mb → ¬ MSet ab ob mb (.slice none 0 0) k := fun k h1 h2 h3 hm => by
    rcases hm with h | h | h | h
    · exact h1 h
    · exact h2 h
    · exact h3 h
    · cases h
  have m6 := hM g6 (by omega) (by omega) (by omega)
  have m7 := hM g7 (by omega) (by omega) (by omega)
  have m8 := hM g8 (by omega) (by omega) (by omega)
  have m10 := hM g10 (by omega) (by omega) (by omega)
  have HK := Lib.hid h07
  have B6 := Lib.hid b6
  have B7 := Lib.hid b7
  have B8 := Lib.hid b8
  have HM := Lib.hid (And.intro m6 (And.intro m7 (And.intro m8 m10)))
  have hgd := HGood.out
  clear h13 h46 h37 h07 b6 b7 b8 bo ba hc7 ho7 hM m6 m7 m8 m10 hx hk1 hk2 hk3 hk4 hk5 hk6 hk7 b0 b2 c10
  rcases hr : ask ⟨ans, []⟩ q with ⟨s1, r1⟩
  rw [hr] at hrun hgd
  have HRun1 := Lib.hid hrun
  have HGood1 := Lib.hid hgd
  have Hr := Lib.hid hr
  clear hrun hgd hr
  cases r1 with
  | error c =>
    refine HRun1.out.mono ?_
    rintro e w8 ⟨X', wv', hp, _, he⟩
    simp only [EndAs] at he
    subst he
    obtain ⟨wA, wc, rfl⟩ := own_slice hp.core.own
    have c10 := (blk_cell (hp.blk Hb107.out HM.out.2.2.2) 0).trans rfl
    have cab := (blk_cell hp.core.ablk 2).trans rfl
    refine leaves_cons (f := 39) (args := #[.pointer (some ⟨g10, 0, none⟩), .pointer (some ⟨g6, 0, none⟩), .pointer (some ⟨g7, 0, none⟩), .pointer (some ⟨g8, 0, none⟩)]) (by simp) (by simp [go_sem]) ?_
    refine (Ask_catch g10 g6 g7 g8 ab (.slice wA s1.done.length wc) wA s1.done.length wc c w8 _ _ _ c10 cab (hp.blk B6.out HM.out.1) (hp.blk B7.out HM.out.2.1) (hp.blk B8.out HM.out.2.2.1) (by omega) (by omega) (by omega)).mono ?_
    rintro e u' w9 ⟨rfl, rfl, hk9, hb6, hb7, hb8⟩
    have r6 : w9.cell? ⟨g6, 0, none⟩ = some (.int .i64 0) := (blk_cell hb6 0).trans rfl
    have r7 : w9.cell? ⟨g7, 0, none⟩ = some (.slice wA s1.done.length wc) := (blk_cell hb7 0).trans rfl
    have r8 : w9.cell? ⟨g8, 0, none⟩ = some (.int .i64 c) := (blk_cell hb8 0).trans rfl
    simp only [settle, Leaves]
    refine ⟨_, results_cells3 (x := .int .i64 0) (y := .slice wA s1.done.length wc) (z := .int .i64 c) rfl _ _ rfl rfl rfl (by go_simp) (by go_simp) (by go_simp), ?_⟩
    exact AskEnd.of Hxl.out HK.out (by omega) (by omega) hp hk9 (fun k hk => by rcases hk with rfl | rfl | rfl <;> omega) leb lib lmb rfl rfl
  | ok y =>
    obtain ⟨v, ch⟩ := y
    refine HRun1.out.mono ?_
    rintro e w8 ⟨X', wv', hp, ho8, he⟩
    simp only [EndAs, KeptV] at he
    obtain ⟨_, ⟨u, ck, rfl, hu⟩, rfl⟩ := he
    obtain ⟨wA, wc, rfl⟩ := own_slice hp.core.own
    have c10 := (blk_cell (hp.blk Hb107.out HM.out.2.2.2) 0).trans rfl
    have b6 := hp.blk B6.out HM.out.1
    have b7 := hp.blk B7.out HM.out.2.1
    have b8 := hp.blk B8.out HM.out.2.2.1
    have cab := (blk_cell hp.core.ablk 2).trans rfl
    have B68 := Lib.hid b6
    have B78 := Lib.hid b7
    have B88 := Lib.hid b8
    have HP := Lib.hid hp
    have Hu := Lib.hid hu
    have z8 := hp.keep.size
    clear hp b6 b7 b8 ho8 hu
    go_wp2_with (first
      | ((with_reducible refine at_dst (N := 11) rfl ?_); go_must (refine ev_alloc rfl rfl zero85 rfl ?_; intro g11 w9 hg11 hl11 hb11 hk9); have Hb11 := Lib.hid hb11; clear hb11; (try simp only [Act.put, List.setIfInBounds_toArray, List.set_cons_zero, List.set_cons_succ]))
      | ((with_reducible refine at_store (t := 85) rfl ?_); go_must (refine ev_store (cs' := #[.int .i64 v, u, .int .i64 ck, .int .i64 ch]) (vs := [.int .i64 v, u, .int .i64 ck, .int .i64 ch]) rfl rfl rfl rfl rfl rfl HI.out.2.2.2.1.1 HI.out.2.2.2.1.2 (by have := Hu.out; simp only [List.all_cons, List.all_nil, this]; rfl) Hb11.out (Nat.le_of_ble_eq_true rfl) rfl ?_; intro w10 hb10' hk10); have c11 := (blk_cell hb10' 0).trans rfl; clear hb10'; (try simp only [Act.put, List.setIfInBounds_toArray, List.set_cons_zero, List.set_cons_succ])))
    have e6 := hk9.trans hk10 (fun i hi e => absurd hi (by omega)) (M := Nob)
    have b69 := e6.blk B68.out id
    have b79 := e6.blk B78.out id
    have b89 := e6.blk B88.out id
    have c10 := e6.cell c10 id
    have cab := e6.cell cab id
    have B69 := Lib.hid b69
    have B79 := Lib.hid b79
    have B89 := Lib.hid b89
    have E6 := Lib.hid e6
    have l6 := blk_lt B68.out
    clear b69 b79 b89 e6 hk9 hk10
    refine wp_region_perm_np [(0, true), (1, true), (2, true), (3, true), (4, true), (5, true), (6, false), (7, false), (8, false)] (fun w' => w'.cell? ⟨g11, 0, none⟩ = some (.int .i64 v) ∧ w'.cell? ⟨g10, 0, none⟩ = some (.pointer (some ⟨ab, 0, none⟩)) ∧ w'.cell? ⟨ab, 2, none⟩ = some (.slice wA s1.done.length wc)) rfl (by kernel_rfl) (by kernel_rfl) (by decide) ⟨c11, c10, cab⟩ ?_
    refine perm_q (v := ?v1_0) (some 31) rfl rfl rfl ?q1_0 ?h1_0; (case q1_0 => (intro w' hS; obtain ⟨s1, s2, s3⟩ := hS; first | (go_simp; done) | (go_simp; rfl))); (try simp only [Act.put, List.setIfInBounds_toArray, List.set_cons_zero, List.set_cons_succ])
    refine perm_q (v := ?v1_1) (some 32) rfl rfl rfl ?q1_1 ?h1_1; (case q1_1 => (intro w' hS; obtain ⟨s1, s2, s3⟩ := hS; first | (go_simp; done) | (go_simp; rfl))); (try simp only [Act.put, List.setIfInBounds_toArray, List.set_cons_zero, List.set_cons_succ])
    refine perm_q (v := ?v1_2) (some 33) rfl rfl rfl ?q1_2 ?h1_2; (case q1_2 => (intro w' hS; obtain ⟨s1, s2, s3⟩ := hS; first | (go_simp; done) | (go_simp; rfl))); (try simp only [Act.put, List.setIfInBounds_toArray, List.set_cons_zero, List.set_cons_succ])
    refine perm_q (v := ?v1_3) (some 34) rfl rfl rfl ?q1_3 ?h1_3; (case q1_3 => (intro w' hS; obtain ⟨s1, s2, s3⟩ := hS; first | (go_simp; done) | (go_simp; rfl))); (try simp only [Act.put, List.setIfInBounds_toArray, List.set_cons_zero, List.set_cons_succ])
    refine perm_q (v := ?v1_4) (some 35) rfl rfl rfl ?q1_4 ?h1_4; (case q1_4 => (intro w' hS; obtain ⟨s1, s2, s3⟩ := hS; first | (go_simp; done) | (go_simp; rfl))); (try simp only [Act.put, List.setIfInBounds_toArray, List.set_cons_zero, List.set_cons_succ])
    refine perm_q (v := ?v1_5) (some 36) rfl rfl rfl ?q1_5 ?h1_5; (case q1_5 => (intro w' hS; obtain ⟨s1, s2, s3⟩ := hS; first | (go_simp; done) | (go_simp; rfl))); (try simp only [Act.put, List.setIfInBounds_toArray, List.set_cons_zero, List.set_cons_succ])
    refine perm_e rfl ?_   -- 6: store 3 t6 t32
    go_must (refine ev_store (W := w10.drew) (cs' := #[.int .i64 v]) rfl rfl rfl rfl rfl rfl HI.out.1.1 HI.out.1.2 rfl B69.out (Nat.le_of_ble_eq_true rfl) rfl ?_; intro w11 hb11' hk11)
    refine wpList_nil ⟨⟨hk11.cell (w := w10.drew) c11 (by show g11 ≠ g6; omega), hk11.cell (w := w10.drew) c10 (by show g10 ≠ g6; omega), hk11.cell (w := w10.drew) cab (by show ab ≠ g6; omega)⟩, ?_⟩
    refine perm_e rfl ?_   -- 7: store 23 t7 t36
    go_must (refine ev_store (cs' := #[.slice wA s1.done.length wc]) rfl rfl rfl rfl rfl rfl HI.out.2.1.1 HI.out.2.1.2 rfl (hk11.blk (w := w10.drew) B79.out (by show g7 ≠ g6; omega)) (Nat.le_of_ble_eq_true rfl) rfl ?_; intro w12 hb12' hk12)
    refine wpList_nil ⟨⟨hk12.cell (hk11.cell (w := w10.drew) c11 (by show g11 ≠ g6; omega)) (by show g11 ≠ g7; omega), hk12.cell (hk11.cell (w := w10.drew) c10 (by show g10 ≠ g6; omega)) (by show g10 ≠ g7; omega), hk12.cell (hk11.cell (w := w10.drew) cab (by show ab ≠ g6; omega)) (by show ab ≠ g7; omega)⟩, ?_⟩
    refine perm_e rfl ?_   -- 8: store 25 t8 0:i64
    go_must (refine ev_store (cs' := #[.int .i64 0]) rfl rfl rfl rfl rfl rfl HI.out.2.2.1.1 HI.out.2.2.1.2 rfl (hk12.blk (hk11.blk (w := w10.drew) B89.out (by show g8 ≠ g6; omega)) (by show g8 ≠ g7; omega)) (Nat.le_of_ble_eq_true rfl) rfl ?_; intro w13 hb13' hk13)
    refine wpList_nil ⟨⟨hk13.cell (hk12.cell (hk11.cell (w := w10.drew) c11 (by show g11 ≠ g6; omega)) (by show g11 ≠ g7; omega)) (by show g11 ≠ g8; omega), hk13.cell (hk12.cell (hk11.cell (w := w10.drew) c10 (by show g10 ≠ g6; omega)) (by show g10 ≠ g7; omega)) (by show g10 ≠ g8; omega), hk13.cell (hk12.cell (hk11.cell (w := w10.drew) cab (by show ab ≠ g6; omega)) (by show ab ≠ g7; omega)) (by show ab ≠ g8; omega)⟩, ?_⟩
    refine perm_nil_np ?_
    have h6 := hk13.blk (hk12.blk hb11' (by show g6 ≠ g7; omega)) (by show g6 ≠ g8; omega)
    have h7 := hk13.blk hb12' (by show g7 ≠ g8; omega)
    have r6 : w13.cell? ⟨g6, 0, none⟩ = some (.int .i64 v) := (blk_cell h6 0).trans rfl
    have r7 : w13.cell? ⟨g7, 0, none⟩ = some (.slice wA s1.done.length wc) := (blk_cell h7 0).trans rfl
    have r8 : w13.cell? ⟨g8, 0, none⟩ = some (.int .i64 0) := (blk_cell hb13' 0).trans rfl
    have hk813 : Keeps (fun k => k = g6 ∨ k = g7 ∨ k = g8) w8 w13 := (((E6.out.drew.mono (M' := fun k => k = g6 ∨ k = g7 ∨ k = g8) (fun _ _ h => h.elim)).trans hk11 (fun _ _ e => .inl e)).trans hk12 (fun _ _ e => .inr (.inl e))).trans hk13 (fun _ _ e => .inr (.inr e))
    clear hk11 hk12 hk13 h6 h7 hb11' hb12' hb13' c10 c11 cab
    go_wp2
    (try simp only [Exit.inBlock, Exit.then])
    refine leaves_cons (f := 39) (args := #[.pointer (some ⟨g10, 0, none⟩), .pointer (some ⟨g6, 0, none⟩), .pointer (some ⟨g7, 0, none⟩), .pointer (some ⟨g8, 0, none⟩)]) (by simp) (by simp [go_sem]) ?_
    refine (Ask_idle ⟨g10, 0, none⟩ ⟨g6, 0, none⟩ ⟨g7, 0, none⟩ ⟨g8, 0, none⟩ _).mono ?_
    rintro e u' w'' ⟨rfl, rfl, rfl⟩
    simp only [settle, Leaves]
    refine ⟨_, results_cells3 (x := .int .i64 v) (y := .slice wA s1.done.length wc) (z := .int .i64 0) rfl _ _ rfl rfl rfl (by go_simp) (by go_simp) (by go_simp), ?_⟩
    rw [Hr.out]
    exact AskEnd.of Hxl.out HK.out (by omega) (by omega) HP.out hk813 (fun k hk => by rcases hk with rfl | rfl | rfl <;> omega) leb lib lmb rfl rfl
end Go.Proofs.QW

/-
  Whether rules may be (rule, Check), in memory: the model's 'check'. Condition: the table of kinds lies as it is laid.
-/
namespace Go.Proofs.QW
open Go.RowKit Go.Proofs.KL Go.Proofs.QM
set_option maxRecDepth 100000
set_option linter.unusedSimpArgs false
set_option linter.unusedVariables false

/-- The table of kinds, as the program lays it. -/
def Tab (w : World) : Prop := ∀ k : Nat, 1 ≤ k → k < 7 → w.cell? ⟨0, k * 4, none⟩ = some (.int .i64 (bnds k).1) ∧ w.cell? ⟨0, k * 4 + 1, none⟩ = some (.int .i64 (bnds k).2.1) ∧ w.cell? ⟨0, k * 4 + 2, none⟩ = some (.int .i64 (bnds k).2.2.1) ∧ w.cell? ⟨0, k * 4 + 3, none⟩ = some (.int .i64 (bnds k).2.2.2)
theorem Tab.keep {M : Nat → Prop} {w w' : World} (h : Tab w) (hk : Keeps M w w') (hn : ¬ M 0) : Tab w' := fun k h1 h2 =>
  ⟨hk.cell (h k h1 h2).1 hn, hk.cell (h k h1 h2).2.1 hn, hk.cell (h k h1 h2).2.2.1 hn, hk.cell (h k h1 h2).2.2.2 hn⟩
/-- rule's closure. -/
theorem askOut_any (g3 : Nat) (many q : Int) (w : World) (h : w.cell? ⟨g3, 0, none⟩ = some (.int .i64 many)) :
    Calls Tryd.prog 59 #[.int .i64 q, .pointer (some ⟨g3, 0, none⟩)] w fun e w' => e = .returned (.bool (askOut many q)) ∧ w = w' := by
  unfold askOut
  by_cases h0 : q < 0
  · go_enter Tryd.func59, Tryd.ntmps59
    go_wp2
    go_ret
    simp [h0]
  · go_enter Tryd.func59, Tryd.ntmps59
    go_wp2
    go_ret
    simp [h0]
    try omega
theorem drop_getD {xs : List Int} {k : Nat} (h : k < xs.length) : xs.drop k = xs.getD k 0 :: xs.drop (k + 1) := by
  rw [List.drop_eq_getElem_cons h]
  simp [List.getD_eq_getElem?_getD, h]
/-- slices.IndexFunc over what a rule asks. -/
theorem indexOut (g3 : Nat) (many : Int) (w : World) (X : Nat → Prop) (sv : Value) (xs : List Int) (hx : IntsX w X sv xs) (hl : xs.length ≤ 12) (h : w.cell? ⟨g3, 0, none⟩ = some (.int .i64 many)) :
    Calls Tryd.prog 68 #[sv, .func (.func 59) #[] #[.pointer (some ⟨g3, 0, none⟩)]] w fun e w' => ∃ n : Int, e = .returned (.int .i64 n) ∧ xs.any (askOut many) = decide (0 ≤ n) ∧ w = w' := by
  obtain ⟨A, c, rfl, hcc, hcell⟩ := id hx
  have Hcell := Lib.hid hcell
  have Hh := Lib.hid h
  clear hx hcell h
  go_enter Tryd.func68, Tryd.ntmps68
  go_wp2
  go_loopw [8] (fun v wr => ∃ k : Nat, v = .int .i64 k ∧ k ≤ xs.length ∧ wr = w ∧ Hid ((xs.drop k).any (askOut many) = xs.any (askOut many)))
    (fun v _ => xs.length - (intOf v).toNat)
  case atStart => exact ⟨0, rfl, Nat.zero_le _, rfl, Lib.hid rfl⟩
  case round =>
    obtain ⟨k, rfl, hk, rfl, hst⟩ := hrel
    by_cases hlt : k < xs.length
    · obtain ⟨b, o, rfl, _, hcw⟩ := Hcell.out k hlt
      have hstep : (xs.drop k).any (askOut many) = (askOut many (xs.getD k 0) || (xs.drop (k + 1)).any (askOut many)) := by
        rw [drop_getD hlt, List.any_cons]
      have Hstep := Lib.hid hstep
      clear hstep
      generalize xs.getD k 0 = q at *
      obtain ⟨t, ht⟩ : ∃ t, askOut many q = t := ⟨_, rfl⟩
      have hrun := askOut_any g3 many q wr Hh.out
      rw [ht] at hrun
      have hs := Hstep.out
      rw [ht] at hs
      have Hs := Lib.hid hs
      have Hrun := Lib.hid hrun
      clear ht hrun Hstep hs
      cases t with
      | true =>
        go_wp2_with (go_at_call 59; go_must (refine Hrun.out.mono ?_; rintro e w1 ⟨rfl, rfl⟩))
        go_ret
        exact ⟨k, rfl, by rw [← hst.out, Hs.out]; simp, rfl⟩
      | false =>
        go_wp2_with (go_at_call 59; go_must (refine Hrun.out.mono ?_; rintro e w1 ⟨rfl, rfl⟩))
        go_roundw
        case rel => exact ⟨k + 1, by go_num, by omega, by first | rfl | trivial, Lib.hid (by rw [← hst.out, Hs.out]; simp)⟩
        case measure => simp [intOf]; omega
    · have hk' : k = xs.length := by omega
      subst hk'
      go_wp2
      go_ret
      exact ⟨-1, by first | rfl | trivial, by rw [← hst.out, List.drop_length]; rfl, by first | rfl | trivial⟩
theorem containsOut (g3 : Nat) (many : Int) (w : World) (X : Nat → Prop) (sv : Value) (xs : List Int) (hx : IntsX w X sv xs) (hl : xs.length ≤ 12) (h : w.cell? ⟨g3, 0, none⟩ = some (.int .i64 many)) :
    Calls Tryd.prog 58 #[sv, .func (.func 59) #[] #[.pointer (some ⟨g3, 0, none⟩)]] w fun e w' => e = .returned (.bool (xs.any (askOut many))) ∧ w = w' := by
  have Hrun := Lib.hid (indexOut g3 many w X sv xs hx hl h)
  clear hx h
  go_enter Tryd.func58, Tryd.ntmps58
  go_wp2_with (go_at_call 68; go_must (refine Hrun.out.mono ?_; rintro e w1 ⟨n, rfl, hn, rfl⟩); have Hn := Lib.hid hn; clear hn)
  go_ret
  exact ⟨by rw [Hn.out]; first | rfl | simp, rfl⟩

theorem zero72 : (Tryd.prog.info? 72).map (·.zero) = some (some (.agg #[.int .i64 0, .int .i64 0, .slice none 0 0])) := by kernel_rfl
theorem info72 : ∃ i, Tryd.prog.info? 72 = some i ∧ i.size = 3 := by
  have h : (Tryd.prog.info? 72).map (·.size) = some 3 := by kernel_rfl
  obtain ⟨i, hi, hs⟩ := Option.map_eq_some_iff.1 h
  exact ⟨i, hi, hs⟩
set_option maxHeartbeats 2000000 in
/-- The error of a rule. -/
theorem rule_any (r : QRule) (many : Int) (w : World) (X : Nat → Prop) (sv : Value) (hx : IntsX w X sv r.asks) (ht : Tab w) :
    Calls Tryd.prog 43 #[.agg #[.int .i64 r.kind, .int .i64 r.n, sv], .int .i64 many] w fun e w' => e = .returned (.int .i64 (ruleErr many r)) ∧ Keeps Nob w w' := by
  obtain ⟨kind, n, asks⟩ := r
  dsimp only at *
  obtain ⟨A, c, rfl, hcc, _⟩ := id hx
  have l0 : 0 < w.heap.size := World.block_lt_of_cell? _ _ (ht 1 (by omega) (by omega)).1
  obtain ⟨er, her⟩ : ∃ x, ruleErr many ⟨kind, n, asks⟩ = x := ⟨_, rfl⟩
  rw [her]
  unfold ruleErr at her
  dsimp only at her
  have Hx := Lib.hid hx
  have Ht := Lib.hid ht
  have Her := Lib.hid her
  clear hx ht her
  go_enter Tryd.func43, Tryd.ntmps43
  go_wp2_with (first
    | ((with_reducible refine at_dst (N := 2) rfl ?_); go_must (refine ev_box (cs := #[.int .i64 kind, .int .i64 n, .slice A asks.length c]) rfl rfl rfl ?_; intro g2 w1 hg2 hl2 hb2 hk2); have Hb2 := Lib.hid hb2; clear hb2; (try simp only [Act.put, List.setIfInBounds_toArray, List.set_cons_zero, List.set_cons_succ]))
    | ((with_reducible refine at_dst (N := 3) rfl ?_); go_must (refine ev_box (cs := #[.int .i64 many]) rfl rfl rfl ?_; intro g3 w2 hg3 hl3 hb3 hk3); have Hb3 := Lib.hid hb3; clear hb3; (try simp only [Act.put, List.setIfInBounds_toArray, List.set_cons_zero, List.set_cons_succ])))
  have hk02 : Keeps Nob w w2 := hk2.trans hk3 (fun _ _ h => h)
  have Hb2' := Lib.hid (hk3.blk Hb2.out id)
  have HK := Lib.hid hk02
  have HT := Lib.hid (Ht.out.keep hk02 id)
  have f0 := (blk_cell Hb2'.out 0).trans rfl
  have f1 := (blk_cell Hb2'.out 1).trans rfl
  have f2 := (blk_cell Hb2'.out 2).trans rfl
  have f3 := (blk_cell Hb3.out 0).trans rfl
  clear hk2 hk3 hk02 Hb2
  by_cases h1 : kind < 1
  · have hkr := Lib.hid (show er = 2 by rw [← Her.out, if_pos (.inl h1)])
    refine wp_region_perm [(0, true), (1, true), (2, true), (3, true), (4, true), (5, true), (6, true), (7, true), (8, true), (9, true), (10, true), (11, true), (12, true), (13, true), (14, true), (15, true), (16, true), (17, true), (18, true), (19, true), (20, true), (21, true), (22, true), (23, true), (24, true), (25, true), (26, true), (27, true)] (fun w' => w'.cell? ⟨g2, 0, none⟩ = some (.int .i64 kind) ∧ w'.cell? ⟨g2, 1, none⟩ = some (.int .i64 n)) rfl (by kernel_rfl) (by kernel_rfl) (by decide) (fun c a d v w h => by cases d <;> exact h) ⟨f0, f1⟩ ?_
    refine perm_q (v := ?v1_0) (some 6) rfl rfl rfl ?q1_0 ?h1_0; (case q1_0 => (intro w' hS; obtain ⟨s1, s2⟩ := hS; first | (go_simp; done) | (go_simp; rfl))); (try simp only [Act.put, List.setIfInBounds_toArray, List.set_cons_zero, List.set_cons_succ])
    refine perm_q (v := ?v1_1) (some 7) rfl rfl rfl ?q1_1 ?h1_1; (case q1_1 => (intro w' hS; obtain ⟨s1, s2⟩ := hS; first | (go_simp; done) | (go_simp; rfl))); (try simp only [Act.put, List.setIfInBounds_toArray, List.set_cons_zero, List.set_cons_succ])
    refine perm_q (v := ?v1_2) (some 8) rfl rfl rfl ?q1_2 ?h1_2; (case q1_2 => (intro w' hS; obtain ⟨s1, s2⟩ := hS; first | (go_simp; done) | (go_simp; rfl))); (try simp only [Act.put, List.setIfInBounds_toArray, List.set_cons_zero, List.set_cons_succ])
    refine perm_q (v := ?v1_3) (some 9) rfl rfl rfl ?q1_3 ?h1_3; (case q1_3 => (intro w' hS; obtain ⟨s1, s2⟩ := hS; first | (go_simp; done) | (go_simp; rfl))); (try simp only [Act.put, List.setIfInBounds_toArray, List.set_cons_zero, List.set_cons_succ])
    refine perm_skip (some 10) rfl rfl rfl ?_; (try simp only [Act.put, List.setIfInBounds_toArray, List.set_cons_zero, List.set_cons_succ])
    refine perm_skip (some 11) rfl rfl rfl ?_; (try simp only [Act.put, List.setIfInBounds_toArray, List.set_cons_zero, List.set_cons_succ])
    refine perm_skip (some 12) rfl rfl rfl ?_; (try simp only [Act.put, List.setIfInBounds_toArray, List.set_cons_zero, List.set_cons_succ])
    refine perm_q (v := ?v1_7) (some 13) rfl rfl rfl ?q1_7 ?h1_7; (case q1_7 => (intro w' hS; obtain ⟨s1, s2⟩ := hS; first | (go_simp; done) | (go_simp; rfl))); (try simp only [Act.put, List.setIfInBounds_toArray, List.set_cons_zero, List.set_cons_succ])
    refine perm_q (v := ?v1_8) (some 14) rfl rfl rfl ?q1_8 ?h1_8; (case q1_8 => (intro w' hS; obtain ⟨s1, s2⟩ := hS; first | (go_simp; done) | (go_simp; rfl))); (try simp only [Act.put, List.setIfInBounds_toArray, List.set_cons_zero, List.set_cons_succ])
    refine perm_skip (some 15) rfl rfl rfl ?_; (try simp only [Act.put, List.setIfInBounds_toArray, List.set_cons_zero, List.set_cons_succ])
    refine perm_skip (some 16) rfl rfl rfl ?_; (try simp only [Act.put, List.setIfInBounds_toArray, List.set_cons_zero, List.set_cons_succ])
    refine perm_skip (some 17) rfl rfl rfl ?_; (try simp only [Act.put, List.setIfInBounds_toArray, List.set_cons_zero, List.set_cons_succ])
    refine perm_skip (some 18) rfl rfl rfl ?_; (try simp only [Act.put, List.setIfInBounds_toArray, List.set_cons_zero, List.set_cons_succ])
    refine perm_skip (some 19) rfl rfl rfl ?_; (try simp only [Act.put, List.setIfInBounds_toArray, List.set_cons_zero, List.set_cons_succ])
    refine perm_skip (some 20) rfl rfl rfl ?_; (try simp only [Act.put, List.setIfInBounds_toArray, List.set_cons_zero, List.set_cons_succ])
    refine perm_skip (some 21) rfl rfl rfl ?_; (try simp only [Act.put, List.setIfInBounds_toArray, List.set_cons_zero, List.set_cons_succ])
    refine perm_skip (some 22) rfl rfl rfl ?_; (try simp only [Act.put, List.setIfInBounds_toArray, List.set_cons_zero, List.set_cons_succ])
    refine perm_q (v := ?v1_17) (some 23) rfl rfl rfl ?q1_17 ?h1_17; (case q1_17 => (intro w' hS; obtain ⟨s1, s2⟩ := hS; first | (go_simp; done) | (go_simp; rfl))); (try simp only [Act.put, List.setIfInBounds_toArray, List.set_cons_zero, List.set_cons_succ])
    refine perm_q (v := ?v1_18) (some 24) rfl rfl rfl ?q1_18 ?h1_18; (case q1_18 => (intro w' hS; obtain ⟨s1, s2⟩ := hS; first | (go_simp; done) | (go_simp; rfl))); (try simp only [Act.put, List.setIfInBounds_toArray, List.set_cons_zero, List.set_cons_succ])
    refine perm_skip (some 25) rfl rfl rfl ?_; (try simp only [Act.put, List.setIfInBounds_toArray, List.set_cons_zero, List.set_cons_succ])
    refine perm_skip (some 26) rfl rfl rfl ?_; (try simp only [Act.put, List.setIfInBounds_toArray, List.set_cons_zero, List.set_cons_succ])
    refine perm_skip (some 27) rfl rfl rfl ?_; (try simp only [Act.put, List.setIfInBounds_toArray, List.set_cons_zero, List.set_cons_succ])
    refine perm_skip (some 28) rfl rfl rfl ?_; (try simp only [Act.put, List.setIfInBounds_toArray, List.set_cons_zero, List.set_cons_succ])
    refine perm_skip (some 29) rfl rfl rfl ?_; (try simp only [Act.put, List.setIfInBounds_toArray, List.set_cons_zero, List.set_cons_succ])
    refine perm_skip (some 30) rfl rfl rfl ?_; (try simp only [Act.put, List.setIfInBounds_toArray, List.set_cons_zero, List.set_cons_succ])
    refine perm_skip (some 31) rfl rfl rfl ?_; (try simp only [Act.put, List.setIfInBounds_toArray, List.set_cons_zero, List.set_cons_succ])
    refine perm_skip (some 32) rfl rfl rfl ?_; (try simp only [Act.put, List.setIfInBounds_toArray, List.set_cons_zero, List.set_cons_succ])
    refine perm_q (v := ?v1_27) (some 33) rfl rfl rfl ?q1_27 ?h1_27; (case q1_27 => (intro w' hS; obtain ⟨s1, s2⟩ := hS; first | (go_simp; done) | (go_simp; rfl))); (try simp only [Act.put, List.setIfInBounds_toArray, List.set_cons_zero, List.set_cons_succ])
    refine perm_nil ?_
    go_wp2
    go_ret
    exact ⟨by rw [hkr.out]; rfl, HK.out.drew⟩
  by_cases h7 : 7 ≤ kind
  · have hkr := Lib.hid (show er = 2 by rw [← Her.out, if_pos (.inr h7)])
    refine wp_region_perm [(0, true), (1, true), (2, true), (3, true), (4, true), (5, true), (6, true), (7, true), (8, true), (9, true), (10, true), (11, true), (12, true), (13, true), (14, true), (15, true), (16, true), (17, true), (18, true), (19, true), (20, true), (21, true), (22, true), (23, true), (24, true), (25, true), (26, true), (27, true)] (fun w' => w'.cell? ⟨g2, 0, none⟩ = some (.int .i64 kind) ∧ w'.cell? ⟨g2, 1, none⟩ = some (.int .i64 n)) rfl (by kernel_rfl) (by kernel_rfl) (by decide) (fun c a d v w h => by cases d <;> exact h) ⟨f0, f1⟩ ?_
    refine perm_q (v := ?v2_0) (some 6) rfl rfl rfl ?q2_0 ?h2_0; (case q2_0 => (intro w' hS; obtain ⟨s1, s2⟩ := hS; first | (go_simp; done) | (go_simp; rfl))); (try simp only [Act.put, List.setIfInBounds_toArray, List.set_cons_zero, List.set_cons_succ])
    refine perm_q (v := ?v2_1) (some 7) rfl rfl rfl ?q2_1 ?h2_1; (case q2_1 => (intro w' hS; obtain ⟨s1, s2⟩ := hS; first | (go_simp; done) | (go_simp; rfl))); (try simp only [Act.put, List.setIfInBounds_toArray, List.set_cons_zero, List.set_cons_succ])
    refine perm_q (v := ?v2_2) (some 8) rfl rfl rfl ?q2_2 ?h2_2; (case q2_2 => (intro w' hS; obtain ⟨s1, s2⟩ := hS; first | (go_simp; done) | (go_simp; rfl))); (try simp only [Act.put, List.setIfInBounds_toArray, List.set_cons_zero, List.set_cons_succ])
    refine perm_q (v := ?v2_3) (some 9) rfl rfl rfl ?q2_3 ?h2_3; (case q2_3 => (intro w' hS; obtain ⟨s1, s2⟩ := hS; first | (go_simp; done) | (go_simp; rfl))); (try simp only [Act.put, List.setIfInBounds_toArray, List.set_cons_zero, List.set_cons_succ])
    refine perm_q (v := ?v2_4) (some 10) rfl rfl rfl ?q2_4 ?h2_4; (case q2_4 => (intro w' hS; obtain ⟨s1, s2⟩ := hS; first | (go_simp; done) | (go_simp; rfl))); (try simp only [Act.put, List.setIfInBounds_toArray, List.set_cons_zero, List.set_cons_succ])
    refine perm_q (v := ?v2_5) (some 11) rfl rfl rfl ?q2_5 ?h2_5; (case q2_5 => (intro w' hS; obtain ⟨s1, s2⟩ := hS; first | (go_simp; done) | (go_simp; rfl))); (try simp only [Act.put, List.setIfInBounds_toArray, List.set_cons_zero, List.set_cons_succ])
    refine perm_q (v := ?v2_6) (some 12) rfl rfl rfl ?q2_6 ?h2_6; (case q2_6 => (intro w' hS; obtain ⟨s1, s2⟩ := hS; first | (go_simp; done) | (go_simp; rfl))); (try simp only [Act.put, List.setIfInBounds_toArray, List.set_cons_zero, List.set_cons_succ])
    refine perm_q (v := ?v2_7) (some 13) rfl rfl rfl ?q2_7 ?h2_7; (case q2_7 => (intro w' hS; obtain ⟨s1, s2⟩ := hS; first | (go_simp; done) | (go_simp; rfl))); (try simp only [Act.put, List.setIfInBounds_toArray, List.set_cons_zero, List.set_cons_succ])
    refine perm_q (v := ?v2_8) (some 14) rfl rfl rfl ?q2_8 ?h2_8; (case q2_8 => (intro w' hS; obtain ⟨s1, s2⟩ := hS; first | (go_simp; done) | (go_simp; rfl))); (try simp only [Act.put, List.setIfInBounds_toArray, List.set_cons_zero, List.set_cons_succ])
    refine perm_skip (some 15) rfl rfl rfl ?_; (try simp only [Act.put, List.setIfInBounds_toArray, List.set_cons_zero, List.set_cons_succ])
    refine perm_skip (some 16) rfl rfl rfl ?_; (try simp only [Act.put, List.setIfInBounds_toArray, List.set_cons_zero, List.set_cons_succ])
    refine perm_skip (some 17) rfl rfl rfl ?_; (try simp only [Act.put, List.setIfInBounds_toArray, List.set_cons_zero, List.set_cons_succ])
    refine perm_skip (some 18) rfl rfl rfl ?_; (try simp only [Act.put, List.setIfInBounds_toArray, List.set_cons_zero, List.set_cons_succ])
    refine perm_skip (some 19) rfl rfl rfl ?_; (try simp only [Act.put, List.setIfInBounds_toArray, List.set_cons_zero, List.set_cons_succ])
    refine perm_skip (some 20) rfl rfl rfl ?_; (try simp only [Act.put, List.setIfInBounds_toArray, List.set_cons_zero, List.set_cons_succ])
    refine perm_skip (some 21) rfl rfl rfl ?_; (try simp only [Act.put, List.setIfInBounds_toArray, List.set_cons_zero, List.set_cons_succ])
    refine perm_skip (some 22) rfl rfl rfl ?_; (try simp only [Act.put, List.setIfInBounds_toArray, List.set_cons_zero, List.set_cons_succ])
    refine perm_q (v := ?v2_17) (some 23) rfl rfl rfl ?q2_17 ?h2_17; (case q2_17 => (intro w' hS; obtain ⟨s1, s2⟩ := hS; first | (go_simp; done) | (go_simp; rfl))); (try simp only [Act.put, List.setIfInBounds_toArray, List.set_cons_zero, List.set_cons_succ])
    refine perm_q (v := ?v2_18) (some 24) rfl rfl rfl ?q2_18 ?h2_18; (case q2_18 => (intro w' hS; obtain ⟨s1, s2⟩ := hS; first | (go_simp; done) | (go_simp; rfl))); (try simp only [Act.put, List.setIfInBounds_toArray, List.set_cons_zero, List.set_cons_succ])
    refine perm_skip (some 25) rfl rfl rfl ?_; (try simp only [Act.put, List.setIfInBounds_toArray, List.set_cons_zero, List.set_cons_succ])
    refine perm_skip (some 26) rfl rfl rfl ?_; (try simp only [Act.put, List.setIfInBounds_toArray, List.set_cons_zero, List.set_cons_succ])
    refine perm_skip (some 27) rfl rfl rfl ?_; (try simp only [Act.put, List.setIfInBounds_toArray, List.set_cons_zero, List.set_cons_succ])
    refine perm_skip (some 28) rfl rfl rfl ?_; (try simp only [Act.put, List.setIfInBounds_toArray, List.set_cons_zero, List.set_cons_succ])
    refine perm_skip (some 29) rfl rfl rfl ?_; (try simp only [Act.put, List.setIfInBounds_toArray, List.set_cons_zero, List.set_cons_succ])
    refine perm_skip (some 30) rfl rfl rfl ?_; (try simp only [Act.put, List.setIfInBounds_toArray, List.set_cons_zero, List.set_cons_succ])
    refine perm_skip (some 31) rfl rfl rfl ?_; (try simp only [Act.put, List.setIfInBounds_toArray, List.set_cons_zero, List.set_cons_succ])
    refine perm_skip (some 32) rfl rfl rfl ?_; (try simp only [Act.put, List.setIfInBounds_toArray, List.set_cons_zero, List.set_cons_succ])
    refine perm_q (v := ?v2_27) (some 33) rfl rfl rfl ?q2_27 ?h2_27; (case q2_27 => (intro w' hS; obtain ⟨s1, s2⟩ := hS; first | (go_simp; done) | (go_simp; rfl))); (try simp only [Act.put, List.setIfInBounds_toArray, List.set_cons_zero, List.set_cons_succ])
    refine perm_nil ?_
    go_wp2
    go_ret
    exact ⟨by rw [hkr.out]; rfl, HK.out.drew⟩
  have her := Her.out
  rw [if_neg (by omega)] at her
  obtain ⟨kn, rfl⟩ := Int.eq_ofNat_of_zero_le (show 0 ≤ kind by omega)
  obtain ⟨t0, t1, t2, t3⟩ := HT.out kn (by omega) (by omega)
  have hi7 : kn < 7 := by omega
  have hk7 : (kn : Int) < 7 := by omega
  rcases hbb : bnds (kn : Int) with ⟨b0, b1, b2, b3⟩
  rw [hbb] at t0 t1 t2 t3 her
  dsimp only at t0 t1 t2 t3 her
  have Her2 := Lib.hid her
  clear hbb her Her
  by_cases h2 : n < b2
  · have hkr := Lib.hid (show er = 2 by rw [← Her2.out, if_pos (.inl h2)])
    refine wp_region_perm [(0, true), (1, true), (2, true), (3, true), (4, true), (5, true), (6, true), (7, true), (8, true), (9, true), (10, true), (11, true), (12, true), (13, true), (14, true), (15, true), (16, true), (17, true), (18, true), (19, true), (20, true), (21, true), (22, true), (23, true), (24, true), (25, true), (26, true), (27, true)] (fun w' => w'.cell? ⟨g2, 0, none⟩ = some (.int .i64 (kn : Int)) ∧ w'.cell? ⟨g2, 1, none⟩ = some (.int .i64 n) ∧ w'.cell? ⟨0, kn * 4 + 2, none⟩ = some (.int .i64 b2)) rfl (by kernel_rfl) (by kernel_rfl) (by decide) (fun c a d v w h => by cases d <;> exact h) ⟨f0, f1, t2⟩ ?_
    refine perm_q (v := ?v3_0) (some 6) rfl rfl rfl ?q3_0 ?h3_0; (case q3_0 => (intro w' hS; obtain ⟨s1, s2, s3⟩ := hS; first | (go_simp; done) | (go_simp; rfl))); (try simp only [Act.put, List.setIfInBounds_toArray, List.set_cons_zero, List.set_cons_succ])
    refine perm_q (v := ?v3_1) (some 7) rfl rfl rfl ?q3_1 ?h3_1; (case q3_1 => (intro w' hS; obtain ⟨s1, s2, s3⟩ := hS; first | (go_simp; done) | (go_simp; rfl))); (try simp only [Act.put, List.setIfInBounds_toArray, List.set_cons_zero, List.set_cons_succ])
    refine perm_q (v := ?v3_2) (some 8) rfl rfl rfl ?q3_2 ?h3_2; (case q3_2 => (intro w' hS; obtain ⟨s1, s2, s3⟩ := hS; first | (go_simp; done) | (go_simp; rfl))); (try simp only [Act.put, List.setIfInBounds_toArray, List.set_cons_zero, List.set_cons_succ])
    refine perm_q (v := ?v3_3) (some 9) rfl rfl rfl ?q3_3 ?h3_3; (case q3_3 => (intro w' hS; obtain ⟨s1, s2, s3⟩ := hS; first | (go_simp; done) | (go_simp; rfl))); (try simp only [Act.put, List.setIfInBounds_toArray, List.set_cons_zero, List.set_cons_succ])
    refine perm_q (v := ?v3_4) (some 10) rfl rfl rfl ?q3_4 ?h3_4; (case q3_4 => (intro w' hS; obtain ⟨s1, s2, s3⟩ := hS; first | (go_simp; done) | (go_simp; rfl))); (try simp only [Act.put, List.setIfInBounds_toArray, List.set_cons_zero, List.set_cons_succ])
    refine perm_q (v := ?v3_5) (some 11) rfl rfl rfl ?q3_5 ?h3_5; (case q3_5 => (intro w' hS; obtain ⟨s1, s2, s3⟩ := hS; first | (go_simp; done) | (go_simp; rfl))); (try simp only [Act.put, List.setIfInBounds_toArray, List.set_cons_zero, List.set_cons_succ])
    refine perm_q (v := ?v3_6) (some 12) rfl rfl rfl ?q3_6 ?h3_6; (case q3_6 => (intro w' hS; obtain ⟨s1, s2, s3⟩ := hS; first | (go_simp; done) | (go_simp; rfl))); (try simp only [Act.put, List.setIfInBounds_toArray, List.set_cons_zero, List.set_cons_succ])
    refine perm_q (v := ?v3_7) (some 13) rfl rfl rfl ?q3_7 ?h3_7; (case q3_7 => (intro w' hS; obtain ⟨s1, s2, s3⟩ := hS; first | (go_simp; done) | (go_simp; rfl))); (try simp only [Act.put, List.setIfInBounds_toArray, List.set_cons_zero, List.set_cons_succ])
    refine perm_q (v := ?v3_8) (some 14) rfl rfl rfl ?q3_8 ?h3_8; (case q3_8 => (intro w' hS; obtain ⟨s1, s2, s3⟩ := hS; first | (go_simp; done) | (go_simp; rfl))); (try simp only [Act.put, List.setIfInBounds_toArray, List.set_cons_zero, List.set_cons_succ])
    refine perm_q (v := ?v3_9) (some 15) rfl rfl rfl ?q3_9 ?h3_9; (case q3_9 => (intro w' hS; obtain ⟨s1, s2, s3⟩ := hS; first | (go_simp; done) | (go_simp; rfl))); (try simp only [Act.put, List.setIfInBounds_toArray, List.set_cons_zero, List.set_cons_succ])
    refine perm_q (v := ?v3_10) (some 16) rfl rfl rfl ?q3_10 ?h3_10; (case q3_10 => (intro w' hS; obtain ⟨s1, s2, s3⟩ := hS; first | (go_simp; done) | (go_simp; rfl))); (try simp only [Act.put, List.setIfInBounds_toArray, List.set_cons_zero, List.set_cons_succ])
    refine perm_q (v := ?v3_11) (some 17) rfl rfl rfl ?q3_11 ?h3_11; (case q3_11 => (intro w' hS; obtain ⟨s1, s2, s3⟩ := hS; first | (go_simp; done) | (go_simp; rfl))); (try simp only [Act.put, List.setIfInBounds_toArray, List.set_cons_zero, List.set_cons_succ])
    refine perm_q (v := ?v3_12) (some 18) rfl rfl rfl ?q3_12 ?h3_12; (case q3_12 => (intro w' hS; obtain ⟨s1, s2, s3⟩ := hS; first | (go_simp; done) | (go_simp; rfl))); (try simp only [Act.put, List.setIfInBounds_toArray, List.set_cons_zero, List.set_cons_succ])
    refine perm_q (v := ?v3_13) (some 19) rfl rfl rfl ?q3_13 ?h3_13; (case q3_13 => (intro w' hS; obtain ⟨s1, s2, s3⟩ := hS; first | (go_simp; done) | (go_simp; rfl))); (try simp only [Act.put, List.setIfInBounds_toArray, List.set_cons_zero, List.set_cons_succ])
    refine perm_q (v := ?v3_14) (some 20) rfl rfl rfl ?q3_14 ?h3_14; (case q3_14 => (intro w' hS; obtain ⟨s1, s2, s3⟩ := hS; first | (go_simp; done) | (go_simp; rfl))); (try simp only [Act.put, List.setIfInBounds_toArray, List.set_cons_zero, List.set_cons_succ])
    refine perm_q (v := ?v3_15) (some 21) rfl rfl rfl ?q3_15 ?h3_15; (case q3_15 => (intro w' hS; obtain ⟨s1, s2, s3⟩ := hS; first | (go_simp; done) | (go_simp; rfl))); (try simp only [Act.put, List.setIfInBounds_toArray, List.set_cons_zero, List.set_cons_succ])
    refine perm_q (v := ?v3_16) (some 22) rfl rfl rfl ?q3_16 ?h3_16; (case q3_16 => (intro w' hS; obtain ⟨s1, s2, s3⟩ := hS; first | (go_simp; done) | (go_simp; rfl))); (try simp only [Act.put, List.setIfInBounds_toArray, List.set_cons_zero, List.set_cons_succ])
    refine perm_q (v := ?v3_17) (some 23) rfl rfl rfl ?q3_17 ?h3_17; (case q3_17 => (intro w' hS; obtain ⟨s1, s2, s3⟩ := hS; first | (go_simp; done) | (go_simp; rfl))); (try simp only [Act.put, List.setIfInBounds_toArray, List.set_cons_zero, List.set_cons_succ])
    refine perm_q (v := ?v3_18) (some 24) rfl rfl rfl ?q3_18 ?h3_18; (case q3_18 => (intro w' hS; obtain ⟨s1, s2, s3⟩ := hS; first | (go_simp; done) | (go_simp; rfl))); (try simp only [Act.put, List.setIfInBounds_toArray, List.set_cons_zero, List.set_cons_succ])
    refine perm_skip (some 25) rfl rfl rfl ?_; (try simp only [Act.put, List.setIfInBounds_toArray, List.set_cons_zero, List.set_cons_succ])
    refine perm_skip (some 26) rfl rfl rfl ?_; (try simp only [Act.put, List.setIfInBounds_toArray, List.set_cons_zero, List.set_cons_succ])
    refine perm_skip (some 27) rfl rfl rfl ?_; (try simp only [Act.put, List.setIfInBounds_toArray, List.set_cons_zero, List.set_cons_succ])
    refine perm_skip (some 28) rfl rfl rfl ?_; (try simp only [Act.put, List.setIfInBounds_toArray, List.set_cons_zero, List.set_cons_succ])
    refine perm_skip (some 29) rfl rfl rfl ?_; (try simp only [Act.put, List.setIfInBounds_toArray, List.set_cons_zero, List.set_cons_succ])
    refine perm_skip (some 30) rfl rfl rfl ?_; (try simp only [Act.put, List.setIfInBounds_toArray, List.set_cons_zero, List.set_cons_succ])
    refine perm_skip (some 31) rfl rfl rfl ?_; (try simp only [Act.put, List.setIfInBounds_toArray, List.set_cons_zero, List.set_cons_succ])
    refine perm_skip (some 32) rfl rfl rfl ?_; (try simp only [Act.put, List.setIfInBounds_toArray, List.set_cons_zero, List.set_cons_succ])
    refine perm_q (v := ?v3_27) (some 33) rfl rfl rfl ?q3_27 ?h3_27; (case q3_27 => (intro w' hS; obtain ⟨s1, s2, s3⟩ := hS; first | (go_simp; done) | (go_simp; rfl))); (try simp only [Act.put, List.setIfInBounds_toArray, List.set_cons_zero, List.set_cons_succ])
    refine perm_nil ?_
    go_wp2
    go_ret
    exact ⟨by rw [hkr.out]; rfl, HK.out.drew⟩
  by_cases h3 : b3 < n
  · have hkr := Lib.hid (show er = 2 by rw [← Her2.out, if_pos (.inr h3)])
    refine wp_region_perm [(0, true), (1, true), (2, true), (3, true), (4, true), (5, true), (6, true), (7, true), (8, true), (9, true), (10, true), (11, true), (12, true), (13, true), (14, true), (15, true), (16, true), (17, true), (18, true), (19, true), (20, true), (21, true), (22, true), (23, true), (24, true), (25, true), (26, true), (27, true)] (fun w' => w'.cell? ⟨g2, 0, none⟩ = some (.int .i64 (kn : Int)) ∧ w'.cell? ⟨g2, 1, none⟩ = some (.int .i64 n) ∧ w'.cell? ⟨0, kn * 4 + 2, none⟩ = some (.int .i64 b2) ∧ w'.cell? ⟨0, kn * 4 + 3, none⟩ = some (.int .i64 b3)) rfl (by kernel_rfl) (by kernel_rfl) (by decide) (fun c a d v w h => by cases d <;> exact h) ⟨f0, f1, t2, t3⟩ ?_
    refine perm_q (v := ?v4_0) (some 6) rfl rfl rfl ?q4_0 ?h4_0; (case q4_0 => (intro w' hS; obtain ⟨s1, s2, s3, s4⟩ := hS; first | (go_simp; done) | (go_simp; rfl))); (try simp only [Act.put, List.setIfInBounds_toArray, List.set_cons_zero, List.set_cons_succ])
    refine perm_q (v := ?v4_1) (some 7) rfl rfl rfl ?q4_1 ?h4_1; (case q4_1 => (intro w' hS; obtain ⟨s1, s2, s3, s4⟩ := hS; first | (go_simp; done) | (go_simp; rfl))); (try simp only [Act.put, List.setIfInBounds_toArray, List.set_cons_zero, List.set_cons_succ])
    refine perm_q (v := ?v4_2) (some 8) rfl rfl rfl ?q4_2 ?h4_2; (case q4_2 => (intro w' hS; obtain ⟨s1, s2, s3, s4⟩ := hS; first | (go_simp; done) | (go_simp; rfl))); (try simp only [Act.put, List.setIfInBounds_toArray, List.set_cons_zero, List.set_cons_succ])
    refine perm_q (v := ?v4_3) (some 9) rfl rfl rfl ?q4_3 ?h4_3; (case q4_3 => (intro w' hS; obtain ⟨s1, s2, s3, s4⟩ := hS; first | (go_simp; done) | (go_simp; rfl))); (try simp only [Act.put, List.setIfInBounds_toArray, List.set_cons_zero, List.set_cons_succ])
    refine perm_q (v := ?v4_4) (some 10) rfl rfl rfl ?q4_4 ?h4_4; (case q4_4 => (intro w' hS; obtain ⟨s1, s2, s3, s4⟩ := hS; first | (go_simp; done) | (go_simp; rfl))); (try simp only [Act.put, List.setIfInBounds_toArray, List.set_cons_zero, List.set_cons_succ])
    refine perm_q (v := ?v4_5) (some 11) rfl rfl rfl ?q4_5 ?h4_5; (case q4_5 => (intro w' hS; obtain ⟨s1, s2, s3, s4⟩ := hS; first | (go_simp; done) | (go_simp; rfl))); (try simp only [Act.put, List.setIfInBounds_toArray, List.set_cons_zero, List.set_cons_succ])
    refine perm_q (v := ?v4_6) (some 12) rfl rfl rfl ?q4_6 ?h4_6; (case q4_6 => (intro w' hS; obtain ⟨s1, s2, s3, s4⟩ := hS; first | (go_simp; done) | (go_simp; rfl))); (try simp only [Act.put, List.setIfInBounds_toArray, List.set_cons_zero, List.set_cons_succ])
    refine perm_q (v := ?v4_7) (some 13) rfl rfl rfl ?q4_7 ?h4_7; (case q4_7 => (intro w' hS; obtain ⟨s1, s2, s3, s4⟩ := hS; first | (go_simp; done) | (go_simp; rfl))); (try simp only [Act.put, List.setIfInBounds_toArray, List.set_cons_zero, List.set_cons_succ])
    refine perm_q (v := ?v4_8) (some 14) rfl rfl rfl ?q4_8 ?h4_8; (case q4_8 => (intro w' hS; obtain ⟨s1, s2, s3, s4⟩ := hS; first | (go_simp; done) | (go_simp; rfl))); (try simp only [Act.put, List.setIfInBounds_toArray, List.set_cons_zero, List.set_cons_succ])
    refine perm_q (v := ?v4_9) (some 15) rfl rfl rfl ?q4_9 ?h4_9; (case q4_9 => (intro w' hS; obtain ⟨s1, s2, s3, s4⟩ := hS; first | (go_simp; done) | (go_simp; rfl))); (try simp only [Act.put, List.setIfInBounds_toArray, List.set_cons_zero, List.set_cons_succ])
    refine perm_q (v := ?v4_10) (some 16) rfl rfl rfl ?q4_10 ?h4_10; (case q4_10 => (intro w' hS; obtain ⟨s1, s2, s3, s4⟩ := hS; first | (go_simp; done) | (go_simp; rfl))); (try simp only [Act.put, List.setIfInBounds_toArray, List.set_cons_zero, List.set_cons_succ])
    refine perm_q (v := ?v4_11) (some 17) rfl rfl rfl ?q4_11 ?h4_11; (case q4_11 => (intro w' hS; obtain ⟨s1, s2, s3, s4⟩ := hS; first | (go_simp; done) | (go_simp; rfl))); (try simp only [Act.put, List.setIfInBounds_toArray, List.set_cons_zero, List.set_cons_succ])
    refine perm_q (v := ?v4_12) (some 18) rfl rfl rfl ?q4_12 ?h4_12; (case q4_12 => (intro w' hS; obtain ⟨s1, s2, s3, s4⟩ := hS; first | (go_simp; done) | (go_simp; rfl))); (try simp only [Act.put, List.setIfInBounds_toArray, List.set_cons_zero, List.set_cons_succ])
    refine perm_q (v := ?v4_13) (some 19) rfl rfl rfl ?q4_13 ?h4_13; (case q4_13 => (intro w' hS; obtain ⟨s1, s2, s3, s4⟩ := hS; first | (go_simp; done) | (go_simp; rfl))); (try simp only [Act.put, List.setIfInBounds_toArray, List.set_cons_zero, List.set_cons_succ])
    refine perm_q (v := ?v4_14) (some 20) rfl rfl rfl ?q4_14 ?h4_14; (case q4_14 => (intro w' hS; obtain ⟨s1, s2, s3, s4⟩ := hS; first | (go_simp; done) | (go_simp; rfl))); (try simp only [Act.put, List.setIfInBounds_toArray, List.set_cons_zero, List.set_cons_succ])
    refine perm_q (v := ?v4_15) (some 21) rfl rfl rfl ?q4_15 ?h4_15; (case q4_15 => (intro w' hS; obtain ⟨s1, s2, s3, s4⟩ := hS; first | (go_simp; done) | (go_simp; rfl))); (try simp only [Act.put, List.setIfInBounds_toArray, List.set_cons_zero, List.set_cons_succ])
    refine perm_q (v := ?v4_16) (some 22) rfl rfl rfl ?q4_16 ?h4_16; (case q4_16 => (intro w' hS; obtain ⟨s1, s2, s3, s4⟩ := hS; first | (go_simp; done) | (go_simp; rfl))); (try simp only [Act.put, List.setIfInBounds_toArray, List.set_cons_zero, List.set_cons_succ])
    refine perm_q (v := ?v4_17) (some 23) rfl rfl rfl ?q4_17 ?h4_17; (case q4_17 => (intro w' hS; obtain ⟨s1, s2, s3, s4⟩ := hS; first | (go_simp; done) | (go_simp; rfl))); (try simp only [Act.put, List.setIfInBounds_toArray, List.set_cons_zero, List.set_cons_succ])
    refine perm_q (v := ?v4_18) (some 24) rfl rfl rfl ?q4_18 ?h4_18; (case q4_18 => (intro w' hS; obtain ⟨s1, s2, s3, s4⟩ := hS; first | (go_simp; done) | (go_simp; rfl))); (try simp only [Act.put, List.setIfInBounds_toArray, List.set_cons_zero, List.set_cons_succ])
    refine perm_q (v := ?v4_19) (some 25) rfl rfl rfl ?q4_19 ?h4_19; (case q4_19 => (intro w' hS; obtain ⟨s1, s2, s3, s4⟩ := hS; first | (go_simp; done) | (go_simp; rfl))); (try simp only [Act.put, List.setIfInBounds_toArray, List.set_cons_zero, List.set_cons_succ])
    refine perm_q (v := ?v4_20) (some 26) rfl rfl rfl ?q4_20 ?h4_20; (case q4_20 => (intro w' hS; obtain ⟨s1, s2, s3, s4⟩ := hS; first | (go_simp; done) | (go_simp; rfl))); (try simp only [Act.put, List.setIfInBounds_toArray, List.set_cons_zero, List.set_cons_succ])
    refine perm_q (v := ?v4_21) (some 27) rfl rfl rfl ?q4_21 ?h4_21; (case q4_21 => (intro w' hS; obtain ⟨s1, s2, s3, s4⟩ := hS; first | (go_simp; done) | (go_simp; rfl))); (try simp only [Act.put, List.setIfInBounds_toArray, List.set_cons_zero, List.set_cons_succ])
    refine perm_q (v := ?v4_22) (some 28) rfl rfl rfl ?q4_22 ?h4_22; (case q4_22 => (intro w' hS; obtain ⟨s1, s2, s3, s4⟩ := hS; first | (go_simp; done) | (go_simp; rfl))); (try simp only [Act.put, List.setIfInBounds_toArray, List.set_cons_zero, List.set_cons_succ])
    refine perm_q (v := ?v4_23) (some 29) rfl rfl rfl ?q4_23 ?h4_23; (case q4_23 => (intro w' hS; obtain ⟨s1, s2, s3, s4⟩ := hS; first | (go_simp; done) | (go_simp; rfl))); (try simp only [Act.put, List.setIfInBounds_toArray, List.set_cons_zero, List.set_cons_succ])
    refine perm_q (v := ?v4_24) (some 30) rfl rfl rfl ?q4_24 ?h4_24; (case q4_24 => (intro w' hS; obtain ⟨s1, s2, s3, s4⟩ := hS; first | (go_simp; done) | (go_simp; rfl))); (try simp only [Act.put, List.setIfInBounds_toArray, List.set_cons_zero, List.set_cons_succ])
    refine perm_q (v := ?v4_25) (some 31) rfl rfl rfl ?q4_25 ?h4_25; (case q4_25 => (intro w' hS; obtain ⟨s1, s2, s3, s4⟩ := hS; first | (go_simp; done) | (go_simp; rfl))); (try simp only [Act.put, List.setIfInBounds_toArray, List.set_cons_zero, List.set_cons_succ])
    refine perm_q (v := ?v4_26) (some 32) rfl rfl rfl ?q4_26 ?h4_26; (case q4_26 => (intro w' hS; obtain ⟨s1, s2, s3, s4⟩ := hS; first | (go_simp; done) | (go_simp; rfl))); (try simp only [Act.put, List.setIfInBounds_toArray, List.set_cons_zero, List.set_cons_succ])
    refine perm_q (v := ?v4_27) (some 33) rfl rfl rfl ?q4_27 ?h4_27; (case q4_27 => (intro w' hS; obtain ⟨s1, s2, s3, s4⟩ := hS; first | (go_simp; done) | (go_simp; rfl))); (try simp only [Act.put, List.setIfInBounds_toArray, List.set_cons_zero, List.set_cons_succ])
    refine perm_nil ?_
    go_wp2
    go_ret
    exact ⟨by rw [hkr.out]; rfl, HK.out.drew⟩
  have her := Her2.out
  rw [if_neg (by omega)] at her
  have Her3 := Lib.hid her
  clear her Her2
  refine wp_region_perm [(0, true), (1, true), (2, true), (3, true), (4, true), (5, true), (6, true), (7, true), (8, true), (9, true), (10, true), (11, true), (12, true), (13, true), (14, true), (15, true), (16, true), (17, true), (18, true), (19, true), (20, true), (21, true), (22, true), (23, true), (24, true), (25, true), (26, true), (27, true)] (fun w' => w'.cell? ⟨g2, 0, none⟩ = some (.int .i64 (kn : Int)) ∧ w'.cell? ⟨g2, 1, none⟩ = some (.int .i64 n) ∧ w'.cell? ⟨0, kn * 4 + 2, none⟩ = some (.int .i64 b2) ∧ w'.cell? ⟨0, kn * 4 + 3, none⟩ = some (.int .i64 b3)) rfl (by kernel_rfl) (by kernel_rfl) (by decide) (fun c a d v w h => by cases d <;> exact h) ⟨f0, f1, t2, t3⟩ ?_
  refine perm_q (v := ?v5_0) (some 6) rfl rfl rfl ?q5_0 ?h5_0; (case q5_0 => (intro w' hS; obtain ⟨s1, s2, s3, s4⟩ := hS; first | (go_simp; done) | (go_simp; rfl))); (try simp only [Act.put, List.setIfInBounds_toArray, List.set_cons_zero, List.set_cons_succ])
  refine perm_q (v := ?v5_1) (some 7) rfl rfl rfl ?q5_1 ?h5_1; (case q5_1 => (intro w' hS; obtain ⟨s1, s2, s3, s4⟩ := hS; first | (go_simp; done) | (go_simp; rfl))); (try simp only [Act.put, List.setIfInBounds_toArray, List.set_cons_zero, List.set_cons_succ])
  refine perm_q (v := ?v5_2) (some 8) rfl rfl rfl ?q5_2 ?h5_2; (case q5_2 => (intro w' hS; obtain ⟨s1, s2, s3, s4⟩ := hS; first | (go_simp; done) | (go_simp; rfl))); (try simp only [Act.put, List.setIfInBounds_toArray, List.set_cons_zero, List.set_cons_succ])
  refine perm_q (v := ?v5_3) (some 9) rfl rfl rfl ?q5_3 ?h5_3; (case q5_3 => (intro w' hS; obtain ⟨s1, s2, s3, s4⟩ := hS; first | (go_simp; done) | (go_simp; rfl))); (try simp only [Act.put, List.setIfInBounds_toArray, List.set_cons_zero, List.set_cons_succ])
  refine perm_q (v := ?v5_4) (some 10) rfl rfl rfl ?q5_4 ?h5_4; (case q5_4 => (intro w' hS; obtain ⟨s1, s2, s3, s4⟩ := hS; first | (go_simp; done) | (go_simp; rfl))); (try simp only [Act.put, List.setIfInBounds_toArray, List.set_cons_zero, List.set_cons_succ])
  refine perm_q (v := ?v5_5) (some 11) rfl rfl rfl ?q5_5 ?h5_5; (case q5_5 => (intro w' hS; obtain ⟨s1, s2, s3, s4⟩ := hS; first | (go_simp; done) | (go_simp; rfl))); (try simp only [Act.put, List.setIfInBounds_toArray, List.set_cons_zero, List.set_cons_succ])
  refine perm_q (v := ?v5_6) (some 12) rfl rfl rfl ?q5_6 ?h5_6; (case q5_6 => (intro w' hS; obtain ⟨s1, s2, s3, s4⟩ := hS; first | (go_simp; done) | (go_simp; rfl))); (try simp only [Act.put, List.setIfInBounds_toArray, List.set_cons_zero, List.set_cons_succ])
  refine perm_q (v := ?v5_7) (some 13) rfl rfl rfl ?q5_7 ?h5_7; (case q5_7 => (intro w' hS; obtain ⟨s1, s2, s3, s4⟩ := hS; first | (go_simp; done) | (go_simp; rfl))); (try simp only [Act.put, List.setIfInBounds_toArray, List.set_cons_zero, List.set_cons_succ])
  refine perm_q (v := ?v5_8) (some 14) rfl rfl rfl ?q5_8 ?h5_8; (case q5_8 => (intro w' hS; obtain ⟨s1, s2, s3, s4⟩ := hS; first | (go_simp; done) | (go_simp; rfl))); (try simp only [Act.put, List.setIfInBounds_toArray, List.set_cons_zero, List.set_cons_succ])
  refine perm_q (v := ?v5_9) (some 15) rfl rfl rfl ?q5_9 ?h5_9; (case q5_9 => (intro w' hS; obtain ⟨s1, s2, s3, s4⟩ := hS; first | (go_simp; done) | (go_simp; rfl))); (try simp only [Act.put, List.setIfInBounds_toArray, List.set_cons_zero, List.set_cons_succ])
  refine perm_q (v := ?v5_10) (some 16) rfl rfl rfl ?q5_10 ?h5_10; (case q5_10 => (intro w' hS; obtain ⟨s1, s2, s3, s4⟩ := hS; first | (go_simp; done) | (go_simp; rfl))); (try simp only [Act.put, List.setIfInBounds_toArray, List.set_cons_zero, List.set_cons_succ])
  refine perm_q (v := ?v5_11) (some 17) rfl rfl rfl ?q5_11 ?h5_11; (case q5_11 => (intro w' hS; obtain ⟨s1, s2, s3, s4⟩ := hS; first | (go_simp; done) | (go_simp; rfl))); (try simp only [Act.put, List.setIfInBounds_toArray, List.set_cons_zero, List.set_cons_succ])
  refine perm_q (v := ?v5_12) (some 18) rfl rfl rfl ?q5_12 ?h5_12; (case q5_12 => (intro w' hS; obtain ⟨s1, s2, s3, s4⟩ := hS; first | (go_simp; done) | (go_simp; rfl))); (try simp only [Act.put, List.setIfInBounds_toArray, List.set_cons_zero, List.set_cons_succ])
  refine perm_q (v := ?v5_13) (some 19) rfl rfl rfl ?q5_13 ?h5_13; (case q5_13 => (intro w' hS; obtain ⟨s1, s2, s3, s4⟩ := hS; first | (go_simp; done) | (go_simp; rfl))); (try simp only [Act.put, List.setIfInBounds_toArray, List.set_cons_zero, List.set_cons_succ])
  refine perm_q (v := ?v5_14) (some 20) rfl rfl rfl ?q5_14 ?h5_14; (case q5_14 => (intro w' hS; obtain ⟨s1, s2, s3, s4⟩ := hS; first | (go_simp; done) | (go_simp; rfl))); (try simp only [Act.put, List.setIfInBounds_toArray, List.set_cons_zero, List.set_cons_succ])
  refine perm_q (v := ?v5_15) (some 21) rfl rfl rfl ?q5_15 ?h5_15; (case q5_15 => (intro w' hS; obtain ⟨s1, s2, s3, s4⟩ := hS; first | (go_simp; done) | (go_simp; rfl))); (try simp only [Act.put, List.setIfInBounds_toArray, List.set_cons_zero, List.set_cons_succ])
  refine perm_q (v := ?v5_16) (some 22) rfl rfl rfl ?q5_16 ?h5_16; (case q5_16 => (intro w' hS; obtain ⟨s1, s2, s3, s4⟩ := hS; first | (go_simp; done) | (go_simp; rfl))); (try simp only [Act.put, List.setIfInBounds_toArray, List.set_cons_zero, List.set_cons_succ])
  refine perm_q (v := ?v5_17) (some 23) rfl rfl rfl ?q5_17 ?h5_17; (case q5_17 => (intro w' hS; obtain ⟨s1, s2, s3, s4⟩ := hS; first | (go_simp; done) | (go_simp; rfl))); (try simp only [Act.put, List.setIfInBounds_toArray, List.set_cons_zero, List.set_cons_succ])
  refine perm_q (v := ?v5_18) (some 24) rfl rfl rfl ?q5_18 ?h5_18; (case q5_18 => (intro w' hS; obtain ⟨s1, s2, s3, s4⟩ := hS; first | (go_simp; done) | (go_simp; rfl))); (try simp only [Act.put, List.setIfInBounds_toArray, List.set_cons_zero, List.set_cons_succ])
  refine perm_q (v := ?v5_19) (some 25) rfl rfl rfl ?q5_19 ?h5_19; (case q5_19 => (intro w' hS; obtain ⟨s1, s2, s3, s4⟩ := hS; first | (go_simp; done) | (go_simp; rfl))); (try simp only [Act.put, List.setIfInBounds_toArray, List.set_cons_zero, List.set_cons_succ])
  refine perm_q (v := ?v5_20) (some 26) rfl rfl rfl ?q5_20 ?h5_20; (case q5_20 => (intro w' hS; obtain ⟨s1, s2, s3, s4⟩ := hS; first | (go_simp; done) | (go_simp; rfl))); (try simp only [Act.put, List.setIfInBounds_toArray, List.set_cons_zero, List.set_cons_succ])
  refine perm_q (v := ?v5_21) (some 27) rfl rfl rfl ?q5_21 ?h5_21; (case q5_21 => (intro w' hS; obtain ⟨s1, s2, s3, s4⟩ := hS; first | (go_simp; done) | (go_simp; rfl))); (try simp only [Act.put, List.setIfInBounds_toArray, List.set_cons_zero, List.set_cons_succ])
  refine perm_q (v := ?v5_22) (some 28) rfl rfl rfl ?q5_22 ?h5_22; (case q5_22 => (intro w' hS; obtain ⟨s1, s2, s3, s4⟩ := hS; first | (go_simp; done) | (go_simp; rfl))); (try simp only [Act.put, List.setIfInBounds_toArray, List.set_cons_zero, List.set_cons_succ])
  refine perm_q (v := ?v5_23) (some 29) rfl rfl rfl ?q5_23 ?h5_23; (case q5_23 => (intro w' hS; obtain ⟨s1, s2, s3, s4⟩ := hS; first | (go_simp; done) | (go_simp; rfl))); (try simp only [Act.put, List.setIfInBounds_toArray, List.set_cons_zero, List.set_cons_succ])
  refine perm_q (v := ?v5_24) (some 30) rfl rfl rfl ?q5_24 ?h5_24; (case q5_24 => (intro w' hS; obtain ⟨s1, s2, s3, s4⟩ := hS; first | (go_simp; done) | (go_simp; rfl))); (try simp only [Act.put, List.setIfInBounds_toArray, List.set_cons_zero, List.set_cons_succ])
  refine perm_q (v := ?v5_25) (some 31) rfl rfl rfl ?q5_25 ?h5_25; (case q5_25 => (intro w' hS; obtain ⟨s1, s2, s3, s4⟩ := hS; first | (go_simp; done) | (go_simp; rfl))); (try simp only [Act.put, List.setIfInBounds_toArray, List.set_cons_zero, List.set_cons_succ])
  refine perm_q (v := ?v5_26) (some 32) rfl rfl rfl ?q5_26 ?h5_26; (case q5_26 => (intro w' hS; obtain ⟨s1, s2, s3, s4⟩ := hS; first | (go_simp; done) | (go_simp; rfl))); (try simp only [Act.put, List.setIfInBounds_toArray, List.set_cons_zero, List.set_cons_succ])
  refine perm_q (v := ?v5_27) (some 33) rfl rfl rfl ?q5_27 ?h5_27; (case q5_27 => (intro w' hS; obtain ⟨s1, s2, s3, s4⟩ := hS; first | (go_simp; done) | (go_simp; rfl))); (try simp only [Act.put, List.setIfInBounds_toArray, List.set_cons_zero, List.set_cons_succ])
  refine perm_nil ?_
  obtain ⟨al, hal⟩ : ∃ x, asks.length = x := ⟨_, rfl⟩
  rw [hal] at f2 Her3
  have Hal := Lib.hid hal
  clear hal
  by_cases h4 : 12 < (al : Int)
  · have hkr := Lib.hid (show er = 3 by rw [← Her3.out, if_pos h4])
    go_wp2
    go_ret
    exact ⟨by rw [hkr.out]; rfl, HK.out.drew⟩
  have her := Her3.out
  rw [if_neg h4] at her
  have Her4 := Lib.hid her
  clear her Her3
  by_cases h5 : (al : Int) < b0
  · have hkr := Lib.hid (show er = 2 by rw [← Her4.out, if_pos (.inl h5)])
    go_wp2
    go_ret
    exact ⟨by rw [hkr.out]; rfl, HK.out.drew⟩
  by_cases h6 : b1 < (al : Int)
  · have hkr := Lib.hid (show er = 2 by rw [← Her4.out, if_pos (.inr h6)])
    go_wp2
    go_ret
    exact ⟨by rw [hkr.out]; rfl, HK.out.drew⟩
  have her := Her4.out
  rw [if_neg (by omega)] at her
  have hrun := containsOut g3 many w2.drew X (.slice A asks.length c) asks (Hx.out.keep HK.out.drew (fun _ _ _ => id) (fun _ _ h => h)) (by have := Hal.out; omega) f3
  rw [Hal.out] at hrun
  obtain ⟨t, htt⟩ : ∃ t, asks.any (askOut many) = t := ⟨_, rfl⟩
  rw [htt] at hrun her
  have Hrun := Lib.hid hrun
  have Her5 := Lib.hid her
  clear her Her4 hrun htt
  cases t with
  | true =>
    have hkr := Lib.hid (show er = 5 by rw [← Her5.out]; rfl)
    go_wp2_with (go_at_call 58; go_must (refine Hrun.out.mono ?_; rintro e w3 ⟨rfl, rfl⟩))
    go_ret
    exact ⟨by rw [hkr.out]; rfl, HK.out.drew⟩
  | false =>
    have hkr := Lib.hid (show er = 0 by rw [← Her5.out]; rfl)
    go_wp2_with (go_at_call 58; go_must (refine Hrun.out.mono ?_; rintro e w3 ⟨rfl, rfl⟩))
    go_ret
    exact ⟨by rw [hkr.out]; rfl, HK.out.drew⟩
theorem drop_rule {rs : List QRule} {k : Nat} (h : k < rs.length) : rs.drop k = rs.getD k default :: rs.drop (k + 1) := by
  rw [List.drop_eq_getElem_cons h]
  simp [List.getD_eq_getElem?_getD, h]
set_option maxHeartbeats 2000000 in
/-- CHECK. -/
theorem Check_any (rs : List QRule) (w : World) (X : Nat → Prop) (rv : Value) (hr : RulesX w X rv rs) (ht : rs.length ≤ 200 → Tab w) :
    Calls Tryd.prog 22 #[rv] w fun e w' => e = .returned (.tuple #[.int .i64 (check rs).1, .int .i64 (check rs).2]) ∧ Keeps Nob w w' := by
  obtain ⟨A, c, rfl, hcc, hcell⟩ := id hr
  obtain ⟨ce, hce⟩ : ∃ x, check rs = x := ⟨_, rfl⟩
  obtain ⟨c1, c2⟩ := ce
  rw [hce]
  unfold check at hce
  obtain ⟨i72, hi72, hs72⟩ := info72
  have Hi72 := Lib.hid (And.intro hi72 hs72)
  have Hr := Lib.hid hr
  have Hcell := Lib.hid hcell
  obtain ⟨rl, hrl⟩ : ∃ x, rs.length = x := ⟨_, rfl⟩
  rw [hrl] at hce ht ⊢
  have Hrl := Lib.hid hrl
  have Hce := Lib.hid hce
  have Ht := Lib.hid ht
  clear hr hcell hce hrl ht hi72 hs72
  by_cases h2 : 200 < rl
  · have h2' : (200 : Int) < rl := by omega
    have hk := Hce.out
    rw [if_pos h2] at hk
    injection hk with hk1 hk2
    subst hk1; subst hk2
    clear Hce
    go_enter Tryd.func22, Tryd.ntmps22
    go_wp2
    go_ret2
    exact ⟨rfl, Keeps.refl _ _⟩
  have h2' : ¬ (200 : Int) < rl := by omega
  have hk := Hce.out
  rw [if_neg h2] at hk
  have Hk := Lib.hid hk
  have HT := Lib.hid (Ht.out (by omega))
  clear hk Hce Ht
  go_enter Tryd.func22, Tryd.ntmps22
  go_wp2
  go_loopw [12] (fun v wr => ∃ k : Nat, v = .int .i64 k ∧ k ≤ rl ∧ Hid (Keeps Nob w wr) ∧ Hid (checkFrom rl (rs.drop k) k = (c1, c2)))
    (fun v _ => rl - (intOf v).toNat)
  case atStart => exact ⟨0, rfl, Nat.zero_le _, Lib.hid (Keeps.refl _ _), Lib.hid Hk.out⟩
  case round =>
    obtain ⟨k, rfl, hk, hkeep, hst⟩ := hrel
    by_cases hlt : k < rl
    · obtain ⟨b, o, u, rfl, hb, e0, e1, e2, hu⟩ := Hcell.out k (by rw [Hrl.out]; exact hlt)
      have e0 := hkeep.out.cell e0 id
      have e1 := hkeep.out.cell e1 id
      have e2 := hkeep.out.cell e2 id
      have hstep : checkFrom rl (rs.drop k) k = if ruleErr rl (rs.getD k default) = 0 then checkFrom rl (rs.drop (k + 1)) ((k + 1 : Nat) : Int) else ((k : Int), ruleErr rl (rs.getD k default)) := by
        rw [drop_rule (by rw [Hrl.out]; exact hlt), checkFrom]; rfl
      rw [hst.out] at hstep
      have hu' := hu.keep (X' := X) hkeep.out (fun _ _ _ => id) (fun _ _ h => h)
      obtain ⟨uA, uc, rfl, _, _⟩ := id hu
      have Hu := Lib.hid hu'
      have Hstep := Lib.hid hstep
      clear hu hu' hstep hb
      generalize rs.getD k default = r at *
      obtain ⟨er, her⟩ : ∃ x, ruleErr rl r = x := ⟨_, rfl⟩
      have hs2 := Hstep.out
      rw [her] at hs2
      have Her := Lib.hid her
      have Hs2 := Lib.hid hs2
      clear hs2 her Hstep
      go_wp2_with (first
        | ((with_reducible refine at_dst (N := 5) rfl ?_); go_must (refine ev_alloc rfl rfl zero72 rfl ?_; intro g5 w1 hg5 hl5 hb5 hk1); have Hb5 := Lib.hid hb5; clear hb5; (try simp only [Act.put, List.setIfInBounds_toArray, List.set_cons_zero, List.set_cons_succ]))
        | ((with_reducible refine at_store (t := 72) rfl ?_); go_must (refine ev_store (cs' := #[.int .i64 r.kind, .int .i64 r.n, .slice uA r.asks.length uc]) rfl rfl rfl rfl rfl rfl Hi72.out.1 Hi72.out.2 rfl Hb5.out (Nat.le_of_ble_eq_true rfl) rfl ?_; intro w2 hb2 hk2); have f0 := (blk_cell hb2 0).trans rfl; have f1 := (blk_cell hb2 1).trans rfl; have f2 := (blk_cell hb2 2).trans rfl; clear hb2
           have hk2' := (hkeep.out.trans hk1 (fun _ _ h => h)).own hk2 (by have := hkeep.out.size; omega)
           have hk12 : Keeps Nob wr w2 := hk1.own hk2 hg5
           have Hrun := Lib.hid (rule_any r rl w2 X (.slice uA r.asks.length uc) (Hu.out.keep hk12 (fun _ _ _ => id) (fun _ _ h => h)) (HT.out.keep hk2' id))
           have HK2 := Lib.hid hk2'
           clear hk2' hk12 hk1 hk2
           (try simp only [Act.put, List.setIfInBounds_toArray, List.set_cons_zero, List.set_cons_succ]))
        | (go_at_call 43; go_must (refine Hrun.out.mono ?_; rintro e w3 ⟨rfl, hk3⟩; rw [Her.out]); have HK3 := Lib.hid (HK2.out.trans hk3 (fun _ _ h => h)); clear hk3))
      · have hz : er ≠ 0 := by intro hz; simp_all
        have hs3 := Hs2.out
        rw [if_neg hz] at hs3
        injection hs3 with h1 h2
        go_ret2
        exact ⟨by rw [h1, h2]; rfl, HK3.out⟩
      · have hz : er = 0 := by simp_all
        have hs3 := Hs2.out
        rw [if_pos hz] at hs3
        exact ⟨⟨k + 1, by go_num, by omega, HK3, Lib.hid hs3.symm⟩, by simp [intOf]; omega⟩
    · have hk' : k = rl := by omega
      subst hk'
      have hs := hst.out
      rw [← Hrl.out, List.drop_length] at hs
      injection hs with h1 h2
      subst h1; subst h2
      go_wp2
      go_ret2
      exact ⟨rfl, hkeep.out⟩
end Go.Proofs.QW

/-
  Rules in new memory (slices.Clone, own), and a new engine (New). No condition but that rules lie.
-/
namespace Go.Proofs.QW
open Go.RowKit Go.Proofs.KL Go.Proofs.QM
set_option maxRecDepth 100000
set_option linter.unusedSimpArgs false
set_option linter.unusedVariables false

theorem nil_slice (n c : Nat) (w : World) (A : Option Addr) : (binOp .eql 23 (.slice A n c) (.slice none 0 0)).run Tryd.prog w = .ok (.bool A.isNone) w := by
  cases A <;> kernel_rfl
set_option maxHeartbeats 1000000 in
/-- slices.Clone of ints. -/
theorem clone_any (xs : List Int) (w : World) (X : Nat → Prop) (sv : Value) (hx : IntsX w X sv xs) (hl : xs.length ≤ 1000000) :
    Calls Tryd.prog 42 #[sv] w fun e w' => ∃ v', e = .returned v' ∧ Keeps Nob w w' ∧ IntsX w' (fun k => w.heap.size ≤ k ∧ k < w'.heap.size) v' xs := by
  obtain ⟨A, c, rfl, hcc, hcell⟩ := id hx
  have hn := nil_slice
  cases A with
  | none =>
    have h0 : xs = [] := by
      cases xs with
      | nil => rfl
      | cons x r => obtain ⟨b, o, h, _⟩ := hcell 0 (by simp); cases h
    subst h0
    clear hx hcell
    go_enter Tryd.func42, Tryd.ntmps42
    go_wp2
    go_ret
    exact ⟨_, rfl, Keeps.refl _ _, nil_ints _ _⟩
  | some ad =>
    have Hx := Lib.hid hx
    have Hcell := Lib.hid hcell
    clear hx hcell
    go_enter Tryd.func42, Tryd.ntmps42
    go_wp2_with (first
      | ((with_reducible refine at_dst (N := 5) rfl ?_); go_must (refine ev_slice (cs := #[]) (t := 3) (n := 0) (c := 0) rfl (by first | (go_simp; done) | (go_simp; rfl)) ?_; intro g1 w1 hg1 hl1 hb1 hk1); have Hb1 := Lib.hid hb1; clear hb1; (try simp only [Act.put, List.setIfInBounds_toArray, List.set_cons_zero, List.set_cons_succ]))
      | ((with_reducible refine at_dst (N := 7) rfl ?_); go_must (refine ev_append (xs := []) (n := 0) (m := xs.length) (news := xs.map (Value.int .i64)) rfl rfl Tryd.underlying23 info3 rfl (by decide) (base := 0) rfl ⟨rfl, .inr ⟨g1, 0, #[], rfl, Nat.zero_le _, Hb1.out, Nat.le_refl _, Nat.zero_le _, rfl, rfl⟩⟩ rfl (by simp) (fun _ => ⟨ad, rfl, fun j u hj => ?_⟩) (by simp [Value.oneCell']) (by omega) (by decide) (Nat.zero_le _) ?_)))
    · have hlt : j < xs.length := by
        have := (List.getElem?_eq_some_iff.1 hj).1
        simpa using this
      obtain ⟨b, o, h, _, hc⟩ := Hcell.out j hlt
      injection h with h
      subst h
      have hu : u = .int .i64 (xs.getD j 0) := by
        rw [List.getElem?_map, List.getElem?_eq_getElem hlt] at hj
        simp at hj
        rw [← hj, List.getD_eq_getElem?_getD, List.getElem?_eq_getElem hlt]; rfl
      rw [hu]
      have hc1 := hk1.cell hc id
      by_cases h0 : j = 0
      · subst h0; simpa [Addr.add] using hc1
      · simpa [Addr.add, h0] using hc1
    · intro v' w2 hown hk hr _
      have Hown := Lib.hid hown
      have Hr := Lib.hid hr
      clear hown hr
      (try simp only [Act.put, List.setIfInBounds_toArray, List.set_cons_zero, List.set_cons_succ])
      go_wp2
      go_ret
      refine ⟨v', rfl, hk1.trans hk (fun i hi e => absurd hi (by simp [Value.ownBlock] at e; omega)), IntsX.own Hown.out _ (fun k hkk => ⟨?_, (own_lt Hown.out k hkk.symm).1⟩)⟩
      rcases Hr.out with h | ⟨b, h, hl⟩
      · rw [h] at hkk; simp [Value.ownBlock] at hkk; omega
      · rw [h] at hkk; injection hkk with hkk; have := hk1.size; omega

def flat (ps : List (QRule × Value)) : List Value := ps.flatMap fun p => [.int .i64 p.1.kind, .int .i64 p.1.n, p.2]
theorem flat_length : ∀ ps : List (QRule × Value), (flat ps).length = ps.length * 3
  | [] => rfl
  | p :: r => by
    show ([_, _, _] ++ flat r).length = _
    rw [List.length_append, flat_length r]; simp; omega
theorem flat_get : ∀ (ps : List (QRule × Value)) (i : Nat) (h : i < ps.length), (flat ps)[i * 3]? = some (.int .i64 ps[i].1.kind) ∧ (flat ps)[i * 3 + 1]? = some (.int .i64 ps[i].1.n) ∧ (flat ps)[i * 3 + 2]? = some ps[i].2
  | p :: r, 0, _ => ⟨rfl, rfl, rfl⟩
  | p :: r, i + 1, h => by
    have ih := flat_get r i (by simpa using h)
    have e : (i + 1) * 3 = i * 3 + 1 + 1 + 1 := by omega
    rw [e]
    exact ih
/-- Rules in a row of one's own. -/
theorem RulesX.own {w : World} {v : Value} {ps : List (QRule × Value)} {rs : List QRule} (h : w.ownsRow 0 72 3 v ps.length (flat ps)) (hrs : ps.map (·.1) = rs) (X : Nat → Prop) (hX : ∀ k, some k = v.ownBlock → X k) (hi : ∀ p ∈ ps, IntsX w X p.2 p.1.asks) : RulesX w X v rs := by
  have hl : ps.length = rs.length := by rw [← hrs]; simp
  rcases h.2 with ⟨rfl, hn⟩ | ⟨g, cap, cur, rfl, _, hg, hc, _, hs, ht⟩
  · exact ⟨none, 0, by rw [← hl, hn], by omega, fun i hi => by omega⟩
  · refine ⟨_, cap, by rw [hl], by omega, fun i hi' => ?_⟩
    have hip : i < ps.length := by omega
    obtain ⟨h0, h1, h2⟩ := flat_get ps i hip
    have hr : rs.getD i default = ps[i].1 := by
      rw [← hrs, List.getD_eq_getElem?_getD, List.getElem?_map, List.getElem?_eq_getElem hip]; rfl
    rw [hr]
    have hcell : ∀ j, j < ps.length * 3 → w.cell? ⟨g, 0 + j, none⟩ = (flat ps)[j]? := fun j hj => by
      rw [blk_cell hg, ← ht, List.getElem?_take, if_pos (by omega)]
      simp
    refine ⟨g, 0, ps[i].2, rfl, hX g rfl, ?_, ?_, ?_, hi _ (List.getElem_mem hip)⟩
    · rw [hcell _ (by omega), h0]
    · rw [Nat.add_assoc, hcell _ (by omega), h1]
    · rw [Nat.add_assoc, hcell _ (by omega), h2]
theorem info72b : (Tryd.prog.info? 72).map (fun i => (i.zero, i.size, i.bytes)) = some (some (.agg #[.int .i64 0, .int .i64 0, .slice none 0 0]), 3, 40) := by kernel_rfl
set_option maxHeartbeats 2000000 in
/-- RULES IN NEW MEMORY. -/
theorem own_any (rs : List QRule) (w : World) (X : Nat → Prop) (rv : Value) (hr : RulesX w X rv rs) (hl : rs.length ≤ 200) (ha : ∀ r ∈ rs, r.asks.length ≤ 1000000) :
    Calls Tryd.prog 44 #[rv] w fun e w' => ∃ v', e = .returned v' ∧ Keeps Nob w w' ∧ RulesX w' (fun k => w.heap.size ≤ k ∧ k < w'.heap.size) v' rs := by
  obtain ⟨A, c, rfl, hcc, hcell⟩ := id hr
  obtain ⟨i72, hi72, hs72⟩ := info72
  obtain ⟨i23, hi23, hs23⟩ := info23
  have HI := Lib.hid (And.intro (And.intro hi72 hs72) (And.intro hi23 hs23))
  have Hcell := Lib.hid hcell
  have Ha := Lib.hid ha
  obtain ⟨rl, hrl⟩ : ∃ x, rs.length = x := ⟨_, rfl⟩
  rw [hrl] at hl ⊢
  have Hrl := Lib.hid hrl
  clear hr hcell ha hrl hi72 hs72 hi23 hs23
  go_enter Tryd.func44, Tryd.ntmps44
  go_wp2
  go_loopw [3, 8] (fun ov v wr => ∃ (k : Nat) (ps : List (QRule × Value)), v = .int .i64 k ∧ k ≤ rl ∧ ps.length = k ∧ Hid (Keeps Nob w wr) ∧ Hid (ps.map (·.1) = rs.take k) ∧ Hid (wr.ownsRow 0 72 3 ov ps.length (flat ps)) ∧ Hid (∀ b, ov.ownBlock = some b → w.heap.size ≤ b) ∧ Hid (∀ p ∈ ps, IntsX wr (fun b => w.heap.size ≤ b ∧ b < wr.heap.size ∧ ¬ some b = ov.ownBlock) p.2 p.1.asks))
    (fun _ v _ => rl - (intOf v).toNat)
  case atStart => exact ⟨0, [], rfl, Nat.zero_le _, rfl, Lib.hid (Keeps.refl _ _), Lib.hid rfl, Lib.hid ⟨rfl, .inl ⟨rfl, rfl⟩⟩, Lib.hid (fun b h => by cases h), Lib.hid (fun p h => by cases h)⟩
  case round =>
    obtain ⟨k, ps, rfl, hk, hpl, hkeep, hmap, hown, hob, hin⟩ := hrel
    by_cases hlt : k < rl
    · obtain ⟨b, o, u, rfl, hb, e0, e1, e2, hu⟩ := Hcell.out k (by rw [Hrl.out]; exact hlt)
      have e0 := hkeep.out.cell e0 id
      have e1 := hkeep.out.cell e1 id
      have e2 := hkeep.out.cell e2 id
      have hu' := hu.keep (X' := X) hkeep.out (fun _ _ _ => id) (fun _ _ h => h)
      obtain ⟨uA, uc, rfl, _, _⟩ := id hu
      have Hu := Lib.hid hu'
      have hal := Ha.out (rs.getD k default) (by rw [List.getD_eq_getElem?_getD, List.getElem?_eq_getElem (by rw [Hrl.out]; exact hlt)]; exact List.getElem_mem _)
      clear hu hu' hb
      generalize hrd : rs.getD k default = r at *
      have Hrd := Lib.hid hrd
      clear hrd
      go_wp2_with (first
        | ((with_reducible refine at_dst (N := 5) rfl ?_); go_must (refine ev_alloc rfl rfl zero72 rfl ?_; intro g5 w1 hg5 hl5 hb5 hk1); have Hb5 := Lib.hid hb5; clear hb5; (try simp only [Act.put, List.setIfInBounds_toArray, List.set_cons_zero, List.set_cons_succ]))
        | ((with_reducible refine at_store (t := 72) rfl ?_); go_must (refine ev_store (cs' := #[.int .i64 r.kind, .int .i64 r.n, .slice uA r.asks.length uc]) rfl rfl rfl rfl rfl rfl HI.out.1.1 HI.out.1.2 rfl Hb5.out (Nat.le_of_ble_eq_true rfl) rfl ?_; intro w2 hb2 hk2); have f2 := (blk_cell hb2 2).trans rfl
           have hk12 : Keeps Nob wr w2 := hk1.own hk2 hg5
           have Hb52 := Lib.hid hb2
           have Hrun := Lib.hid (clone_any r.asks w2 X (.slice uA r.asks.length uc) (Hu.out.keep hk12 (fun _ _ _ => id) (fun _ _ h => h)) hal)
           have HK12 := Lib.hid hk12
           clear hk12 hb2
           (try simp only [Act.put, List.setIfInBounds_toArray, List.set_cons_zero, List.set_cons_succ]))
        | (go_at_call 42; go_must (refine Hrun.out.mono ?_; rintro e w3 ⟨cv, rfl, hk3, hcv⟩; obtain ⟨cA, cc, rfl, _, _⟩ := id hcv); have Hcv := Lib.hid hcv; clear hcv; (try simp only [Act.put, List.setIfInBounds_toArray, List.set_cons_zero, List.set_cons_succ]))
        | ((with_reducible refine at_store (t := 23) rfl ?_); go_must (refine ev_store (cs' := #[.int .i64 r.kind, .int .i64 r.n, .slice cA r.asks.length cc]) rfl rfl rfl rfl rfl rfl HI.out.2.1 HI.out.2.2 rfl (hk3.blk Hb52.out id) (Nat.le_of_ble_eq_true rfl) rfl ?_; intro w4 hb4 hk4); have d0 := (blk_cell hb4 0).trans rfl; have d1 := (blk_cell hb4 1).trans rfl; have d2 := (blk_cell hb4 2).trans rfl; clear hb4; (try simp only [Act.put, List.setIfInBounds_toArray, List.set_cons_zero, List.set_cons_succ]))
        | ((with_reducible refine at_dst (N := 18) rfl ?_); go_must (refine ev_slice (cs := #[.int .i64 r.kind, .int .i64 r.n, .slice cA r.asks.length cc]) (t := 72) (n := 1) (c := 1) rfl (by first | (go_simp; done) | (go_simp; rfl)) ?_; intro g6 w5 hg6 hl6 hb6 hk6); have Hb6 := Lib.hid hb6; clear hb6
           have hk15 : Keeps Nob wr w5 := (((HK12.out.trans hk3 (fun _ _ h => h)).own hk4 (by have := HK12.out.size; omega)).trans hk6 (fun _ _ h => h))
           have HK15 := Lib.hid hk15
           clear hk15
           (try simp only [Act.put, List.setIfInBounds_toArray, List.set_cons_zero, List.set_cons_succ]))
        | ((with_reducible refine at_dst (N := 19) rfl ?_); go_must (refine ev_append (W := w5) rfl rfl Tryd.underlying22 info72b rfl (by decide) (base := 0) rfl (ownsRow_keep hown.out HK15.out (fun _ _ => id)) (news := [.int .i64 r.kind, .int .i64 r.n, .slice cA r.asks.length cc]) rfl rfl (fun _ => ⟨_, rfl, World.news_of_block Hb6.out⟩) (by simp [Value.oneCell']) (by omega) (by decide) (Nat.zero_le _) ?_; intro ov6 w6 hown6 hk7 hr6 hf6); have Hown6 := Lib.hid hown6; have Hr6 := Lib.hid hr6; clear hown6 hr6 hf6; (try simp only [Act.put, List.setIfInBounds_toArray, List.set_cons_zero, List.set_cons_succ])))
      have z1 := HK12.out.size
      have lg5 := blk_lt Hb52.out
      have z3 := hk3.size
      have z4 := hk4.size
      have z6 := hk6.size
      have z7 := hk7.size
      have z0 := hkeep.out.size
      have ho := fun b hb => (own_lt hown.out b hb).1
      have hk7' : Keeps Nob w w6 := (hkeep.out.trans HK15.out (fun _ _ h => h)).trans hk7 (fun i hi e => absurd (hob.out i e.symm) (by omega))
      refine ⟨⟨k + 1, ps ++ [(r, .slice cA r.asks.length cc)], by go_num, by omega, by simp [hpl], Lib.hid hk7', Lib.hid ?_, Lib.hid ?_, Lib.hid (fun b hb => ?_), Lib.hid (fun p hp => ?_)⟩, by simp [intOf]; omega⟩
      · rw [List.map_append, hmap.out, List.take_succ_eq_append_getElem (by rw [Hrl.out]; exact hlt)]
        have := Hrd.out
        rw [List.getD_eq_getElem?_getD, List.getElem?_eq_getElem (by rw [Hrl.out]; exact hlt)] at this
        simp at this
        simp [this]
      · have := Hown6.out
        rw [List.length_append]
        simpa [flat] using this
      · rcases Hr6.out with h | ⟨b', h, hl'⟩
        · exact hob.out b (show u3.ownBlock = some b from h.symm.trans hb)
        · rw [h] at hb; injection hb with hb; omega
      · have hfree : ∀ b, b < w5.heap.size → ¬ some b = Value.ownBlock (u3) → ¬ some b = ov6.ownBlock := fun b hb hn e => by
          rcases Hr6.out with h | ⟨b', h, hl'⟩
          · exact hn (e.trans h)
          · rw [h] at e; injection e with e; omega
        rcases List.mem_append.1 hp with hp | hp
        · exact ((hin.out p hp).keep (X' := fun b => w.heap.size ≤ b ∧ b < wr.heap.size ∧ ¬ some b = Value.ownBlock u3) HK15.out (fun _ _ _ => id) (fun _ _ h => h)).keep hk7 (fun b _ hx => hx.2.2) (fun b _ hx => ⟨hx.1, by have := hx.2.1; omega, hfree b (by have := hx.2.1; omega) hx.2.2⟩)
        · rw [List.mem_singleton.1 hp]
          refine (((Hcv.out.keep (X' := fun b => w2.heap.size ≤ b ∧ b < w3.heap.size) hk4 (fun b _ hx e => by have := hx.1; omega) (fun _ _ h => h)).keep (X' := fun b => w2.heap.size ≤ b ∧ b < w3.heap.size) hk6 (fun _ _ _ => id) (fun _ _ h => h))).keep hk7 (fun b _ hx e => by have := ho b e.symm; have := hx.1; omega) (fun b _ hx => ⟨by have := hx.1; omega, by have := hx.2; omega, hfree b (by have := hx.2; omega) (fun e => by have := ho b e.symm; have := hx.1; omega)⟩)
    · have hk' : k = rl := by omega
      subst hk'
      go_wp2
      go_ret
      refine ⟨_, rfl, hkeep.out, RulesX.own hown.out (by rw [hmap.out, List.take_of_length_le (by have := Hrl.out; omega)]) _ (fun b hb => ⟨hob.out b hb.symm, (own_lt hown.out b hb.symm).1⟩) (fun p hp => (hin.out p hp).keep (Keeps.refl Nob _) (fun _ _ _ => id) (fun b _ h => ⟨h.1, h.2.1⟩))⟩
end Go.Proofs.QW
