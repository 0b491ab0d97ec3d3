/-
  A question worked out, in memory (work): what answer comes to, kept with what it asked. Condition: nested askings come to the model's.
-/
import Derived.Test.YtohpkolkagddiaaDoorQ7
import Derived.Test.YtohpkolkagddiaaDoorK6
namespace Go.Proofs.QW
open Go.RowKit Go.Proofs.KL Go.Proofs.QM
set_option maxRecDepth 100000
set_option linter.unusedSimpArgs false
set_option linter.unusedVariables false

theorem answer_any {E : Env} {on : List Int} {ask : AskFn} (IH : AskOK E on ask) (hG : QM.Good E on ask) (w : World) (X : Nat → Prop) (ab eb ib mb ob ga gk : Nat) (s : PS) (wv av asv : Value) (r : QRule)
    (hw : WW w X ab eb ib mb ob ga gk E s wv [] av) (ho : OpenX w ob on) (hi : PInv E on s) (hr : ROk E.rules.length r) (hk : r.kind ≠ 1) (hx : IntsX w X asv r.asks) :
    Calls Tryd.prog 66 #[.agg #[.int .i64 r.kind, .int .i64 r.n, asv], .func (.func 67) #[] #[.pointer (some ⟨gk, 0, none⟩), .pointer (some ⟨ga, 0, none⟩)]] w
      (Works w X ab eb ib mb ob ga gk E on wv av [] (evalR ask s r)) := by
  obtain ⟨kind, n, asks⟩ := r
  obtain ⟨k1, k2, n1, n2, l12, l1, l2, ha⟩ := id hr
  dsimp only at *
  have hkk : kind = 2 ∨ kind = 3 ∨ kind = 4 ∨ kind = 5 ∨ kind = 6 := by omega
  rcases hkk with rfl | rfl | rfl | rfl | rfl
  · simp [bnds] at n1 n2
    exact answer_sum IH hG w X ab eb ib mb ob ga gk s wv av asv n asks hw ho hi ha hx (by omega) n1 n2
  · simp [bnds] at l1
    exact answer_pick IH hG w X ab eb ib mb ob ga gk s wv av asv n asks hw ho hi hr hx (by omega) (by omega)
  · exact answer_first IH hG w X ab eb ib mb ob ga gk s wv av asv n asks hw ho hi ha hx (by omega)
  · simp [bnds] at l1 l2
    obtain ⟨q0, q1, rfl⟩ : ∃ q0 q1, asks = [q0, q1] := by
      match asks, l1, l2 with
      | [a, b], _, _ => exact ⟨a, b, rfl⟩
      | [], h, _ => exact absurd h (by simp)
      | [_], h, _ => exact absurd h (by simp)
      | _ :: _ :: _ :: _, _, h => simp at h; omega
    exact answer_less IH hG w X ab eb ib mb ob ga gk s wv av asv n q0 q1 hw ho hi (ha q0 (by simp)) (ha q1 (by simp)) hx
  · simp [bnds] at l1 l2 n1 n2
    obtain ⟨q0, rfl⟩ : ∃ q0, asks = [q0] := by
      match asks, l1, l2 with
      | [a], _, _ => exact ⟨a, rfl⟩
      | [], h, _ => exact absurd h (by simp)
      | _ :: _ :: _, _, h => simp at h; omega
    exact answer_step IH hG w X ab eb ib mb ob ga gk s wv av asv n q0 hw ho hi (ha q0 (by simp)) hx n1 n2
theorem AskC.cells {w : World} {X : Nat → Prop} {ab eb ib mb ob : Nat} {E : Env} {s : PS} {wv : Value} (h : AskC w X ab eb ib mb ob E s wv) :
    w.cell? ⟨ab, 0, none⟩ = some (.pointer (some ⟨eb, 0, none⟩)) ∧ w.cell? ⟨ab, 1, none⟩ = some (.map (some ob)) ∧ w.cell? ⟨ab, 2, none⟩ = some wv ∧ w.cell? ⟨ab, 3, none⟩ = some (.int .i64 E.most) :=
  ⟨(blk_cell h.ablk 0).trans rfl, (blk_cell h.ablk 1).trans rfl, (blk_cell h.ablk 2).trans rfl, (blk_cell h.ablk 3).trans rfl⟩
theorem EngAt.cells {w : World} {X : Nat → Prop} {eb ib mb : Nat} {E : Env} {ans : List (Option KeptR)} (h : EngAt w X eb ib mb E ans) :
    ∃ A c c', w.cell? ⟨eb, 0, none⟩ = some (.slice A E.rules.length c) ∧ w.cell? ⟨eb, 1, none⟩ = some (.slice (some ⟨ib, 0, none⟩) E.rules.length c') ∧ w.cell? ⟨eb, 2, none⟩ = some (.map (some mb)) ∧ w.cell? ⟨eb, 3, none⟩ = some (.int .i64 E.rev) ∧ RulesX w X (.slice A E.rules.length c) E.rules := by
  obtain ⟨rv, c', hb, hr⟩ := h.blk
  obtain ⟨A, c, rfl, _, _⟩ := id hr
  exact ⟨A, c, c', (blk_cell hb 0).trans rfl, (blk_cell hb 1).trans rfl, (blk_cell hb 2).trans rfl, (blk_cell hb 3).trans rfl, hr⟩
theorem RulesX.cellAt {w : World} {X : Nat → Prop} {A : Option Addr} {n c : Nat} {rs : List QRule} (h : RulesX w X (.slice A n c) rs) {k : Nat} (hk : k < rs.length) : ∃ b o u, A = some ⟨b, o, none⟩ ∧ w.cell? ⟨b, o + k * 3, none⟩ = some (.int .i64 (rs.getD k default).kind) ∧
    w.cell? ⟨b, o + k * 3 + 1, none⟩ = some (.int .i64 (rs.getD k default).n) ∧ w.cell? ⟨b, o + k * 3 + 2, none⟩ = some u ∧ IntsX w X u (rs.getD k default).asks := by
  obtain ⟨A', c', h1, _, h3⟩ := h
  injection h1 with h1 _ _
  subst h1
  obtain ⟨b, o, u, h4, _, h5, h6, h7, h8⟩ := h3 k hk
  exact ⟨b, o, u, h4, h5, h6, h7, h8⟩
theorem zero3 : (Tryd.prog.info? 3).map (·.zero) = some (some (.int .i64 0)) := by kernel_rfl
theorem AskC.newF {w : World} {X : Nat → Prop} {ab eb ib mb ob : Nat} {E : Env} {s : PS} {wv : Value} (h : AskC w X ab eb ib mb ob E s wv) {g : Nat} (hg : w.heap.size ≤ g) : ¬ FP ab eb ib mb ob wv X g := by
  intro hf
  obtain ⟨⟨rv, c, heb, _⟩, ⟨cs, hib, _⟩, _, _, _, _⟩ := id h.eng
  rcases hf with hf | hf | hf | hf
  · have := h.lt _ hf; omega
  · have := blk_lt heb; omega
  · have := blk_lt hib; omega
  · have := h.xl _ hf; omega
theorem AskPost.ofWT {w w5 w6 : World} {X X' : Nat → Prop} {ab eb ib mb ob g9 : Nat} {E : Env} {s1 : PS} {wv wv' av av' : Value} (hk : Keeps Nob w w5) (ht : WT w5 X ab ob mb g9 wv av w6 X' wv' av') (hg : w.heap.size ≤ g9) (hav : av.ownBlock = none) (hc : AskC w6 X' ab eb ib mb ob E s1 wv') :
    AskPost w X ab eb ib mb ob E wv s1 w6 X' wv' := by
  have hs := hk.size
  refine ⟨fun b hb => ht.xx b (by omega), hk.mono (fun _ _ h => h.elim) |>.trans ht.keep (fun i hi hm => ?_), ht.row.imp id (fun ⟨b, h1, h2⟩ => ⟨b, h1, by omega⟩), hc⟩
  rcases hm with hm | hm | hm
  · exact hm
  · omega
  · rw [hav] at hm; cases hm
theorem own_slice {w : World} {base e size n : Nat} {v : Value} {xs : List Value} (h : w.ownsRow base e size v n xs) : ∃ A c, v = .slice A n c := by
  rcases h.2 with ⟨rfl, rfl⟩ | ⟨g, cap, cur, rfl, _⟩
  · exact ⟨none, 0, rfl⟩
  · exact ⟨_, cap, rfl⟩
theorem AskC.wrote {w w3 : World} {X : Nat → Prop} {ab eb ib mb ob : Nat} {E : Env} {s : PS} {wv wv2 : Value} {q : Int} (h : AskC w X ab eb ib mb ob E s wv) (hk : Keeps (fun k => k = ab ∨ some k = wv.ownBlock) w w3)
    (hb : w3.heap[ab]? = some (.cells #[.pointer (some ⟨eb, 0, none⟩), .map (some ob), wv2, .int .i64 E.most] 89 (0, 0))) (hown : w3.ownsRow 0 3 1 wv2 (s.done.length + 1) (s.done.map (Value.int .i64) ++ [.int .i64 q]))
    (hr : wv2.ownBlock = wv.ownBlock ∨ ∃ b, wv2.ownBlock = some b ∧ w.heap.size ≤ b) : AskPost w X ab eb ib mb ob E wv { s with done := s.done ++ [q] } w3 X wv2 := by
  obtain ⟨⟨rv, c, heb, _⟩, ⟨cs, hib, _⟩, ⟨es, cl, hmb, _⟩, _, _, _⟩ := id h.eng
  obtain ⟨eo, co, ho⟩ := h.oblk
  have hne : ∀ {b t : Nat} {cs : Array Value}, w.heap[b]? = some (.cells cs t (0, 0)) → t ≠ 89 → t ≠ 3 → ¬ (b = ab ∨ some b = wv.ownBlock) := fun {b t cs} hq h1 h2 hm => by
    rcases hm with hm | hm
    · rw [hm] at hq
      have := hq.symm.trans h.ablk
      injection this with this
      injection this with _ h3 _
      exact h1 h3
    · exact own_ne h.own hq h2 hm
  have hnm : ∀ {b : Nat} {es : Array MapEntry} {c : Nat}, w.heap[b]? = some (.map es c) → ¬ (b = ab ∨ some b = wv.ownBlock) := fun {b es c} hq hm => by
    rcases hm with hm | hm
    · rw [hm] at hq
      have := hq.symm.trans h.ablk; injection this with this; cases this
    · obtain ⟨_, cs, hc⟩ := own_lt h.own b hm.symm
      have := hq.symm.trans hc; injection this with this; cases this
  refine ⟨fun _ _ => Iff.rfl, hk.mono (fun i _ hm => ?_), hr, hb, h.eng.keep hk (hne heb (by decide) (by decide)) (hne hib (by decide) (by decide)) (hnm hmb) (fun b _ hx hm => ?_) (fun _ _ => Iff.rfl), ⟨eo, co, hk.blk ho (hnm ho)⟩, by simpa using hown, h.xa, h.xo, fun b hb' => ?_, h.mo, fun k hx => Nat.lt_of_lt_of_le (h.xl k hx) hk.size⟩
  · rcases hm with rfl | hm
    · exact .inl rfl
    · exact .inr (.inr (.inr hm))
  · rcases hm with rfl | hm
    · exact h.xa hx
    · exact h.xw b hm.symm hx
  · rcases hr with hr | ⟨b', hb2, hlt⟩
    · exact h.xw b (hr ▸ hb')
    · rw [hb2] at hb'; injection hb' with hb'; subst hb'
      intro hx; have := h.xl _ hx; omega
theorem AskC.mapFar {w : World} {X : Nat → Prop} {ab eb ib mb ob : Nat} {E : Env} {s : PS} {wv : Value} (h : AskC w X ab eb ib mb ob E s wv) {b : Nat} {es : Array MapEntry} {c : Nat} (hq : w.heap[b]? = some (.map es c)) : ¬ (b = ab ∨ some b = wv.ownBlock) := by
  intro hm
  rcases hm with hm | hm
  · rw [hm] at hq
    have := hq.symm.trans h.ablk; injection this with this; cases this
  · obtain ⟨_, cs, hc⟩ := own_lt h.own b hm.symm
    have := hq.symm.trans hc; injection this with this; cases this
theorem AskC.widen {w : World} {X Y : Nat → Prop} {ab eb ib mb ob : Nat} {E : Env} {s : PS} {wv : Value} (h : AskC w X ab eb ib mb ob E s wv) (hY : ∀ k, Y k → k < w.heap.size ∧ ¬ FP ab eb ib mb ob wv X k) : AskC w (fun k => X k ∨ Y k) ab eb ib mb ob E s wv := by
  obtain ⟨⟨rv, c, heb, hrx⟩, hinp, hans, xe, xi, xm⟩ := id h.eng
  refine ⟨h.ablk, ⟨⟨rv, c, heb, hrx.keep (Keeps.refl Nob w) (fun _ _ _ => id) (fun _ _ => .inl)⟩, hinp, hans.keep (Keeps.refl Nob w) id (fun _ _ _ => id) (fun _ _ => .inl), ?_, ?_, ?_⟩, h.oblk, h.own, ?_, ?_, ?_, h.mo, ?_⟩
  · rintro (hx | hx)
    · exact xe hx
    · exact (hY _ hx).2 (.inr (.inl rfl))
  · rintro (hx | hx)
    · exact xi hx
    · exact (hY _ hx).2 (.inr (.inr (.inl rfl)))
  · rintro (hx | hx)
    · exact xm hx
    · exact (hY _ hx).2 (.inl (.inr (.inr (.inl rfl))))
  · rintro (hx | hx)
    · exact h.xa hx
    · exact (hY _ hx).2 (.inl (.inl rfl))
  · rintro (hx | hx)
    · exact h.xo hx
    · exact (hY _ hx).2 (.inl (.inr (.inl rfl)))
  · intro b hb
    rintro (hx | hx)
    · exact h.xw b hb hx
    · exact (hY _ hx).2 (.inl (.inr (.inr (.inr hb.symm))))
  · rintro k (hx | hx)
    · exact h.xl k hx
    · exact (hY _ hx).1
theorem IntsX.own {w : World} {av : Value} {xs : List Int} (h : w.ownsRow 0 3 1 av xs.length (xs.map (Value.int .i64))) (X : Nat → Prop) (hX : ∀ k, some k = av.ownBlock → X k) : IntsX w X av xs := by
  rcases h.2 with ⟨rfl, hn⟩ | ⟨g, cap, cur, rfl, _, hg, hc, _, hs, ht⟩
  · exact ⟨none, 0, by rw [hn], by omega, fun i hi => by omega⟩
  · refine ⟨_, cap, rfl, hc, fun i hi => ⟨g, 0, rfl, hX g rfl, ?_⟩⟩
    rw [blk_cell hg]
    have : (cur.toList.take (xs.length * 1))[i]? = some (.int .i64 (xs.getD i 0)) := by
      rw [ht, List.getElem?_map, List.getElem?_eq_getElem hi, List.getD_eq_getElem?_getD, List.getElem?_eq_getElem hi]; rfl
    rw [List.getElem?_take] at this
    rw [if_pos (by omega)] at this
    simpa using this
theorem ev_quiet {P : Program} {ops : Array Oper} {rest : List Oper} {o : Oper} {a : Act} {Q : Exit → Act → World → Prop} {W : World} {v : Value} (hgd : o.guard = none) (hrun : (execOp a.eval o).run P W = .ok (.value v) W) (h : wpList P ops Q rest (a.put o.dst v) W) : wpList P ops Q (o :: rest) a W :=
  ev_run hgd hrun h
theorem results_cell1 {fn : Func} {p : Tmp} {ty : TypeId} (h : fn.results = #[.cell p ty]) (tmps : Array Value) (P : Program) (w : World) : (results fn tmps).run P w = (do loadVar ty (← asAddr (tmps.getD p undef))).run P w := by
  simp [results, h]
theorem infoS3 : ∃ i, Tryd.prog.info? 3 = some i ∧ i.size = 1 := by
  have h : (Tryd.prog.info? 3).map (·.size) = some 1 := by kernel_rfl
  obtain ⟨i, hi, hs⟩ := Option.map_eq_some_iff.1 h
  exact ⟨i, hi, hs⟩
/-- What work comes to. -/
def WorkPost (w : World) (X : Nat → Prop) (ab eb ib mb ob : Nat) (E : Env) (on : List Int) (wv : Value) (q : Int) (was : Option KeptR) (r : PS × Except Int (Int × List Int)) (e : Ending) (w' : World) : Prop :=
  match r with
  | (s1, .error c) => ∃ X' wv', AskPost w X ab eb ib mb ob E wv s1 w' X' wv' ∧ e = .panicked [{ v := .iface 90 (.int .i64 c), recovered := false }]
  | (s1, .ok (v, asked)) =>
    if E.most ≤ s1.done.length then ∃ X' wv', AskPost w X ab eb ib mb ob E wv s1 w' X' wv' ∧ e = .panicked [{ v := .iface 90 (.int .i64 13), recovered := false }]
    else ∃ X' wv' u, AskPost w X ab eb ib mb ob E wv { s1 with done := s1.done ++ [q] } w' X' wv' ∧ OpenX w' ob on ∧ IntsX w' X' u asked ∧ e = .returned (.agg #[.int .i64 v, u, .int .i64 E.rev, .int .i64 (chOf E.rev was v)])
set_option maxHeartbeats 1000000 in
theorem work_any {E : Env} {on : List Int} {ask : AskFn} (hE : EnvOk E) (IH : AskOK E on ask) (hG : QM.Good E on ask) (w : World) (X : Nat → Prop) (ab eb ib mb ob : Nat) (s : PS) (wv : Value) (q : Int) (was : Option KeptR) (uA : Option Addr) (ul uc : Nat)
    (hc : AskC w X ab eb ib mb ob E s wv) (ho : OpenX w ob on) (hi : PInv E on s) (hq : InQ E q) (hk : (E.rule q).kind ≠ 1) :
    Calls Tryd.prog 57 #[.pointer (some ⟨ab, 0, none⟩), .int .i64 q, .agg #[.int .i64 (was.getD k0).value, .slice uA ul uc, .int .i64 (was.getD k0).checked, .int .i64 (was.getD k0).changed], .bool was.isSome] w
      (WorkPost w X ab eb ib mb ob E on wv q was (evalR ask s (E.rule q))) := by
  obtain ⟨i85, hi85, hs85⟩ := info85
  obtain ⟨i23, hi23, hs23⟩ := info23
  have Hi23 := Lib.hid hi23
  have Hs23 := Lib.hid hs23
  clear hi23 hs23
  have h200 := hE.len
  obtain ⟨i3, hi3, hs3⟩ := infoS3
  have Hi3 := Lib.hid hi3
  have Hs3 := Lib.hid hs3
  clear hi3 hs3
  obtain ⟨a0, a1, a2, a3⟩ := hc.cells
  obtain ⟨A, cc, cc', b0, b1, b2, b3, hrx⟩ := hc.eng.cells
  obtain ⟨qn, rfl⟩ := Int.eq_ofNat_of_zero_le hq.1
  have hqn : qn < E.rules.length := by have := hq.2; omega
  obtain ⟨rb, ro, ru, rfl, r0, r1, r2, hru⟩ := hrx.cellAt hqn
  rw [getD_rule] at r0 r1 hru
  have lab := World.block_lt_of_cell? _ _ a0
  have leb := World.block_lt_of_cell? _ _ b0
  have lrb := World.block_lt_of_cell? _ _ r0
  dsimp only at lab leb lrb
  have hro := hE.rok _ (rule_mem hq)
  generalize hrr : E.rule (qn : Int) = r at *
  generalize hRR : evalR ask s r = RR
  obtain ⟨wk, hwk⟩ : ∃ k, was.getD k0 = k := ⟨_, rfl⟩
  obtain ⟨hd, hhd⟩ : ∃ b, was.isSome = b := ⟨_, rfl⟩
  rw [hwk, hhd]
  obtain ⟨uA', uc', rfl, _, _⟩ := id hru
  generalize hal : r.asks.length = al at *
  have Hal := Lib.hid hal
  have Hrr := Lib.hid hrr
  have Hwk := Lib.hid hwk
  have Hhd := Lib.hid hhd
  have HRR := Lib.hid hRR
  have Hrx := Lib.hid hrx
  have Hru := Lib.hid hru
  have Hc := Lib.hid hc
  have Ho := Lib.hid ho
  have Hi := Lib.hid hi
  have Hi85 := Lib.hid hi85
  have Hs85 := Lib.hid hs85
  clear hrr hwk hhd hRR hrx hru hc ho hi hi85 hs85 hal
  go_enter Tryd.func57, Tryd.ntmps57
  go_wp2_with (first
    | ((with_reducible refine at_dst (N := 4) rfl ?_); go_must (refine ev_box (cs := #[.pointer (some ⟨ab, 0, none⟩)]) rfl rfl rfl ?_; intro g4 w1 hg4 hl4 hb4 hk4); have Hb4 := Lib.hid hb4; clear hb4; (try simp only [Act.put, List.setIfInBounds_toArray, List.set_cons_zero, List.set_cons_succ]))
    | ((with_reducible refine at_dst (N := 6) rfl ?_); go_must (refine ev_box (cs := #[.int .i64 wk.value, .slice uA ul uc, .int .i64 wk.checked, .int .i64 wk.changed]) rfl rfl rfl ?_; intro g6 w2 hg6 hl6 hb6 hk6); have Hb6 := Lib.hid hb6; clear hb6; (try simp only [Act.put, List.setIfInBounds_toArray, List.set_cons_zero, List.set_cons_succ]))
    | ((with_reducible refine at_dst (N := 8) rfl ?_); go_must (refine ev_alloc rfl rfl zero85 rfl ?_; intro g8 w3 hg8 hl8 hb8 hk8); have Hb8 := Lib.hid hb8; clear hb8; (try simp only [Act.put, List.setIfInBounds_toArray, List.set_cons_zero, List.set_cons_succ])))
  have hk03 : Keeps Nob w w3 := (hk4.trans hk6 (fun _ _ h => h)).trans hk8 (fun _ _ h => h)
  have HK := Lib.hid hk03
  have hb4' := hk8.blk (hk6.blk Hb4.out id) id
  have hb6' := hk8.blk Hb6.out id
  have Hb4' := Lib.hid hb4'
  have Hb6' := Lib.hid hb6'
  have s1 := hk4.size
  have s2 := hk6.size
  have s3 := hk8.size
  have f40 := (blk_cell Hb4'.out 0).trans rfl
  have ca := hk03.cells0 ab 0 lab
  have cb := hk03.cells0 eb 3 leb
  rw [a0] at ca
  rw [b3] at cb
  clear hk4 hk6 hk8 hk03 hb4' hb6' Hb4 Hb6
  refine wp_region_perm [(0, true), (1, true), (2, true), (3, true), (4, true), (5, true), (6, true), (7, true), (8, true), (9, true), (10, true), (11, true), (12, true), (13, true), (14, true), (15, false), (16, false)] (fun w' => w'.cell? ⟨g4, 0, none⟩ = some (.pointer (some ⟨ab, 0, none⟩)) ∧ w'.cell? ⟨ab, 0, none⟩ = some (.pointer (some ⟨eb, 0, none⟩)) ∧ w'.cell? ⟨eb, 3, none⟩ = some (.int .i64 E.rev)) rfl (by kernel_rfl) (by kernel_rfl) (by decide) (fun c a d v w h => by cases d <;> exact h) ⟨f40, ca, cb⟩ ?_
  refine perm_q (v := ?v1_0) (some 10) rfl rfl rfl ?q1_0 ?h1_0; (case q1_0 => (intro w' hS; obtain ⟨s1, s2, s3⟩ := hS; first | (go_simp; done) | (go_simp; rfl))); (try simp only [Act.put, List.setIfInBounds_toArray, List.set_cons_zero, List.set_cons_succ])
  refine perm_q (v := ?v1_1) (some 11) rfl rfl rfl ?q1_1 ?h1_1; (case q1_1 => (intro w' hS; obtain ⟨s1, s2, s3⟩ := hS; first | (go_simp; done) | (go_simp; rfl))); (try simp only [Act.put, List.setIfInBounds_toArray, List.set_cons_zero, List.set_cons_succ])
  refine perm_q (v := ?v1_2) (some 12) rfl rfl rfl ?q1_2 ?h1_2; (case q1_2 => (intro w' hS; obtain ⟨s1, s2, s3⟩ := hS; first | (go_simp; done) | (go_simp; rfl))); (try simp only [Act.put, List.setIfInBounds_toArray, List.set_cons_zero, List.set_cons_succ])
  refine perm_q (v := ?v1_3) (some 13) rfl rfl rfl ?q1_3 ?h1_3; (case q1_3 => (intro w' hS; obtain ⟨s1, s2, s3⟩ := hS; first | (go_simp; done) | (go_simp; rfl))); (try simp only [Act.put, List.setIfInBounds_toArray, List.set_cons_zero, List.set_cons_succ])
  refine perm_q (v := ?v1_4) (some 14) rfl rfl rfl ?q1_4 ?h1_4; (case q1_4 => (intro w' hS; obtain ⟨s1, s2, s3⟩ := hS; first | (go_simp; done) | (go_simp; rfl))); (try simp only [Act.put, List.setIfInBounds_toArray, List.set_cons_zero, List.set_cons_succ])
  refine perm_q (v := ?v1_5) (some 15) rfl rfl rfl ?q1_5 ?h1_5; (case q1_5 => (intro w' hS; obtain ⟨s1, s2, s3⟩ := hS; first | (go_simp; done) | (go_simp; rfl))); (try simp only [Act.put, List.setIfInBounds_toArray, List.set_cons_zero, List.set_cons_succ])
  refine perm_q (v := ?v1_6) (some 16) rfl rfl rfl ?q1_6 ?h1_6; (case q1_6 => (intro w' hS; obtain ⟨s1, s2, s3⟩ := hS; first | (go_simp; done) | (go_simp; rfl))); (try simp only [Act.put, List.setIfInBounds_toArray, List.set_cons_zero, List.set_cons_succ])
  refine perm_q (v := ?v1_7) (some 17) rfl rfl rfl ?q1_7 ?h1_7; (case q1_7 => (intro w' hS; obtain ⟨s1, s2, s3⟩ := hS; first | (go_simp; done) | (go_simp; rfl))); (try simp only [Act.put, List.setIfInBounds_toArray, List.set_cons_zero, List.set_cons_succ])
  refine perm_q (v := ?v1_8) (some 18) rfl rfl rfl ?q1_8 ?h1_8; (case q1_8 => (intro w' hS; obtain ⟨s1, s2, s3⟩ := hS; first | (go_simp; done) | (go_simp; rfl))); (try simp only [Act.put, List.setIfInBounds_toArray, List.set_cons_zero, List.set_cons_succ])
  refine perm_q (v := ?v1_9) (some 19) rfl rfl rfl ?q1_9 ?h1_9; (case q1_9 => (intro w' hS; obtain ⟨s1, s2, s3⟩ := hS; first | (go_simp; done) | (go_simp; rfl))); (try simp only [Act.put, List.setIfInBounds_toArray, List.set_cons_zero, List.set_cons_succ])
  refine perm_q (v := ?v1_10) (some 20) rfl rfl rfl ?q1_10 ?h1_10; (case q1_10 => (intro w' hS; obtain ⟨s1, s2, s3⟩ := hS; first | (go_simp; done) | (go_simp; rfl))); (try simp only [Act.put, List.setIfInBounds_toArray, List.set_cons_zero, List.set_cons_succ])
  refine perm_q (v := ?v1_11) (some 21) rfl rfl rfl ?q1_11 ?h1_11; (case q1_11 => (intro w' hS; obtain ⟨s1, s2, s3⟩ := hS; first | (go_simp; done) | (go_simp; rfl))); (try simp only [Act.put, List.setIfInBounds_toArray, List.set_cons_zero, List.set_cons_succ])
  refine perm_q (v := ?v1_12) (some 22) rfl rfl rfl ?q1_12 ?h1_12; (case q1_12 => (intro w' hS; obtain ⟨s1, s2, s3⟩ := hS; first | (go_simp; done) | (go_simp; rfl))); (try simp only [Act.put, List.setIfInBounds_toArray, List.set_cons_zero, List.set_cons_succ])
  refine perm_q (v := ?v1_13) (some 23) rfl rfl rfl ?q1_13 ?h1_13; (case q1_13 => (intro w' hS; obtain ⟨s1, s2, s3⟩ := hS; first | (go_simp; done) | (go_simp; rfl))); (try simp only [Act.put, List.setIfInBounds_toArray, List.set_cons_zero, List.set_cons_succ])
  refine perm_q (v := ?v1_14) (some 24) rfl rfl rfl ?q1_14 ?h1_14; (case q1_14 => (intro w' hS; obtain ⟨s1, s2, s3⟩ := hS; first | (go_simp; done) | (go_simp; rfl))); (try simp only [Act.put, List.setIfInBounds_toArray, List.set_cons_zero, List.set_cons_succ])
  refine perm_e rfl ?_   -- 15: alloc 85
  go_must (refine ev_alloc rfl rfl zero85 rfl ?_; intro g9 w4 hg9 hl9 hb9 hk9)
  (try simp only [Act.put, List.setIfInBounds_toArray, List.set_cons_zero, List.set_cons_succ])
  refine wpList_nil ⟨⟨hk9.cell (w := w3.drew) f40 id, hk9.cell (w := w3.drew) ca id, hk9.cell (w := w3.drew) cb id⟩, ?_⟩
  have Hb9 := Lib.hid hb9
  clear hb9
  refine perm_e rfl ?_   -- 16: store 85 t9 t24
  go_must (refine ev_store (cs' := #[.int .i64 0, .slice none 0 0, .int .i64 E.rev, .int .i64 E.rev]) rfl rfl rfl rfl rfl rfl Hi85.out Hs85.out rfl Hb9.out (Nat.le_of_ble_eq_true rfl) rfl ?_; intro w5 hb5 hk5)
  refine wpList_nil ⟨⟨hk5.cell (hk9.cell (w := w3.drew) f40 id) (by show g4 ≠ g9; have := hg9; simp at this; omega), hk5.cell (hk9.cell (w := w3.drew) ca id) (by show ab ≠ g9; have := hg9; simp at this; omega), hk5.cell (hk9.cell (w := w3.drew) cb id) (by show eb ≠ g9; have := hg9; simp at this; omega)⟩, ?_⟩
  refine perm_nil ?_
  have hg9' : w3.heap.size ≤ g9 := hg9
  have hk05 : Keeps Nob w w5 := (HK.out.drew.then hk9).own hk5 (by omega)
  have hb4'' := hk5.blk (hk9.blk (w := w3.drew) Hb4'.out id) (by show g4 ≠ g9; omega)
  have hb6'' := hk5.blk (hk9.blk (w := w3.drew) Hb6'.out id) (by show g6 ≠ g9; omega)
  have hb8'' := hk5.blk (hk9.blk (w := w3.drew) Hb8.out id) (by show g8 ≠ g9; omega)
  have n4 := Hc.out.newF (g := g4) hg4
  have n6 := Hc.out.newF (g := g6) (by omega)
  have n8 := Hc.out.newF (g := g8) (by omega)
  have n9 := Hc.out.newF (g := g9) (by omega)
  have hww : WW w5 X ab eb ib mb ob g4 g9 E s wv [] (.slice none 0 0) := ⟨Hc.out.keep hk05 (fun _ _ h => h), hb4'', hb5, ⟨rfl, .inl ⟨rfl, rfl⟩⟩, n4, n9, fun b hb => by cases hb⟩
  have hrun := answer_any IH hG w5 X ab eb ib mb ob g4 g9 s wv (.slice none 0 0) (.slice uA' al uc') r hww (Ho.out.keep hk05 id) Hi.out hro hk (Hru.out.keep hk05 (fun _ _ _ => id) (fun _ _ h => h))
  rw [HRR.out] at hrun
  have hstep := evalR_good hE hG hro Hi.out
  rw [HRR.out] at hstep
  obtain ⟨s9, r9⟩ := RR
  have d4 := (blk_cell hb4'' 0).trans rfl
  have d0 := hk05.cell a0 id
  have d3 := hk05.cell b0 id
  have e0 := hk05.cell r0 id
  have e1 := hk05.cell r1 id
  have e2 := hk05.cell r2 id
  have lw : w.heap.size ≤ w5.heap.size := hk05.size
  have HK5 := Lib.hid hk05
  have Hb4'' := Lib.hid hb4''
  have Hb6'' := Lib.hid hb6''
  have Hb8'' := Lib.hid hb8''
  have N4 := Lib.hid n4
  have N6 := Lib.hid n6
  have N8 := Lib.hid n8
  have N9 := Lib.hid n9
  have Hww := Lib.hid hww
  have Hrun := Lib.hid hrun
  have Hstep := Lib.hid hstep
  clear hk05 hb4'' hb6'' hb8'' n4 n6 n8 n9 hww hrun hstep hb5 hk5 hk9 a0 a1 a2 a3 b0 b1 b2 b3 r0 r1 r2 f40 ca cb Hb9 HK Hb4' Hb6' Hb8
  cases r9 with
  | error c =>
    go_wp2_with (go_at_call 66; go_must (refine Hrun.out.mono ?_; rintro e w6 ⟨X', wv', av', ht, hcc, he⟩; dsimp only at he; subst he))
    refine ⟨rfl, X', wv', AskPost.ofWT HK5.out ht (by omega) rfl hcc, rfl⟩
  | ok y =>
    obtain ⟨v, asked⟩ := y
    go_wp2_with (first
      | (go_at_call 66; go_must (refine Hrun.out.mono ?_; rintro e w6 ⟨X', wv', av', ht, hcc, hw6, ho6, he⟩; subst he); have HT := Lib.hid ht; have HC := Lib.hid hcc; have HW := Lib.hid hw6; have HO := Lib.hid ho6; clear ht hcc hw6 ho6; (try simp only [Act.put, List.setIfInBounds_toArray, List.set_cons_zero, List.set_cons_succ]))
      | ((with_reducible refine at_store (t := 3) rfl ?_); go_must (refine ev_store (cs' := #[.int .i64 v, av', .int .i64 E.rev, .int .i64 E.rev]) rfl rfl rfl rfl rfl rfl Hi3.out Hs3.out rfl HW.out.hgk (Nat.le_of_ble_eq_true rfl) rfl ?_; intro w7 hb7 hk7); have Hb7 := Lib.hid hb7; clear hb7; (try simp only [Act.put, List.setIfInBounds_toArray, List.set_cons_zero, List.set_cons_succ])))
    have hcc7 := HC.out.keepF hk7 (fun k _ e => by subst e; exact HW.out.nk)
    have hg94 : g4 ≠ g9 := by omega
    have hb47 := hk7.blk HW.out.hga hg94
    have hb67 := hk7.blk (HT.out.blk Hb6''.out (fun h => N6.out (.inl h)) (by omega) (by simp [Value.ownBlock])) (by show g6 ≠ g9; omega)
    have hb87 := hk7.blk (HT.out.blk Hb8''.out (fun h => N8.out (.inl h)) (by omega) (by simp [Value.ownBlock])) (by show g8 ≠ g9; omega)
    have hav7 : w7.ownsRow 0 3 1 av' asked.length (asked.map (Value.int .i64)) := ownsRow_keep HW.out.own hk7 (fun b hb e => by subst e; exact own_ne HW.out.own HW.out.hgk (by decide) hb.symm)
    have ho7 : OpenX w7 ob on := HO.out.keep hk7 (fun e => HW.out.nk (.inl (.inr (.inl e.symm))))
    have hdl : ((s9.done.length : Nat) : Int) ≤ E.most := Hstep.out.1.inv.dmost
    obtain ⟨wA, wc, rfl⟩ := own_slice hcc7.own
    obtain ⟨f0, f1, f2, f3⟩ := hcc7.cells
    have f4 := (blk_cell hb47 0).trans rfl
    have d7 := Hstep.out.1.inv.dlen
    have Hcc7 := Lib.hid hcc7
    have Hb47 := Lib.hid hb47
    have Hb67 := Lib.hid hb67
    have Hb87 := Lib.hid hb87
    have Hav7 := Lib.hid hav7
    have Ho7 := Lib.hid ho7
    have Hk7 := Lib.hid hk7
    generalize hdn : s9.done.length = dn at *
    have Hdn := Lib.hid hdn
    clear hcc7 hb47 hb67 hb87 hav7 ho7 hk7 d0 d3 d4 e0 e1 e2 hdn
    refine wp_region_perm [(0, true), (1, true), (2, true), (3, true), (4, true), (5, true), (6, true), (7, true), (8, true), (9, true)] (fun w' => w'.cell? ⟨g4, 0, none⟩ = some (.pointer (some ⟨ab, 0, none⟩)) ∧ w'.cell? ⟨ab, 2, none⟩ = some (.slice wA dn wc) ∧ w'.cell? ⟨ab, 3, none⟩ = some (.int .i64 E.most)) rfl (by kernel_rfl) (by kernel_rfl) (by decide) (fun c a d v w h => by cases d <;> exact h) ⟨f4, f2, f3⟩ ?_
    refine perm_q (v := ?v2_0) (some 38) rfl rfl rfl ?q2_0 ?h2_0; (case q2_0 => (intro w' hS; obtain ⟨s1, s2, s3⟩ := hS; first | (go_simp; done) | (go_simp; rfl))); (try simp only [Act.put, List.setIfInBounds_toArray, List.set_cons_zero, List.set_cons_succ])
    refine perm_q (v := ?v2_1) (some 39) rfl rfl rfl ?q2_1 ?h2_1; (case q2_1 => (intro w' hS; obtain ⟨s1, s2, s3⟩ := hS; first | (go_simp; done) | (go_simp; rfl))); (try simp only [Act.put, List.setIfInBounds_toArray, List.set_cons_zero, List.set_cons_succ])
    refine perm_q (v := ?v2_2) (some 40) rfl rfl rfl ?q2_2 ?h2_2; (case q2_2 => (intro w' hS; obtain ⟨s1, s2, s3⟩ := hS; first | (go_simp; done) | (go_simp; rfl))); (try simp only [Act.put, List.setIfInBounds_toArray, List.set_cons_zero, List.set_cons_succ])
    refine perm_q (v := ?v2_3) (some 41) rfl rfl rfl ?q2_3 ?h2_3; (case q2_3 => (intro w' hS; obtain ⟨s1, s2, s3⟩ := hS; first | (go_simp; done) | (go_simp; rfl))); (try simp only [Act.put, List.setIfInBounds_toArray, List.set_cons_zero, List.set_cons_succ])
    refine perm_q (v := ?v2_4) (some 42) rfl rfl rfl ?q2_4 ?h2_4; (case q2_4 => (intro w' hS; obtain ⟨s1, s2, s3⟩ := hS; first | (go_simp; done) | (go_simp; rfl))); (try simp only [Act.put, List.setIfInBounds_toArray, List.set_cons_zero, List.set_cons_succ])
    refine perm_q (v := ?v2_5) (some 43) rfl rfl rfl ?q2_5 ?h2_5; (case q2_5 => (intro w' hS; obtain ⟨s1, s2, s3⟩ := hS; first | (go_simp; done) | (go_simp; rfl))); (try simp only [Act.put, List.setIfInBounds_toArray, List.set_cons_zero, List.set_cons_succ])
    refine perm_q (v := ?v2_6) (some 44) rfl rfl rfl ?q2_6 ?h2_6; (case q2_6 => (intro w' hS; obtain ⟨s1, s2, s3⟩ := hS; first | (go_simp; done) | (go_simp; rfl))); (try simp only [Act.put, List.setIfInBounds_toArray, List.set_cons_zero, List.set_cons_succ])
    refine perm_q (v := ?v2_7) (some 45) rfl rfl rfl ?q2_7 ?h2_7; (case q2_7 => (intro w' hS; obtain ⟨s1, s2, s3⟩ := hS; first | (go_simp; done) | (go_simp; rfl))); (try simp only [Act.put, List.setIfInBounds_toArray, List.set_cons_zero, List.set_cons_succ])
    refine perm_q (v := ?v2_8) (some 46) rfl rfl rfl ?q2_8 ?h2_8; (case q2_8 => (intro w' hS; obtain ⟨s1, s2, s3⟩ := hS; first | (go_simp; done) | (go_simp; rfl))); (try simp only [Act.put, List.setIfInBounds_toArray, List.set_cons_zero, List.set_cons_succ])
    refine perm_q (v := ?v2_9) (some 47) rfl rfl rfl ?q2_9 ?h2_9; (case q2_9 => (intro w' hS; obtain ⟨s1, s2, s3⟩ := hS; first | (go_simp; done) | (go_simp; rfl))); (try simp only [Act.put, List.setIfInBounds_toArray, List.set_cons_zero, List.set_cons_succ])
    refine perm_nil ?_
    by_cases hm : E.most ≤ dn
    · have hbm : ((dn : Int) == E.most) = true := by simp; omega
      go_wp2
      refine ⟨rfl, ?_⟩
      unfold WorkPost
      dsimp only
      rw [if_pos (by rw [Hdn.out]; exact hm)]
      exact ⟨X', _, (AskPost.ofWT HK5.out HT.out (by omega) rfl HC.out).then (Hk7.out.drew (M := (· = g9))) (fun i _ e => by omega) (Hcc7.out.keep (Keeps.refl Nob w7).drew (fun _ _ h => h)), rfl⟩
    · have hbm : ((dn : Int) == E.most) = false := by simp; omega
      have g60 := (blk_cell Hb67.out 0).trans rfl
      have g63 := (blk_cell Hb67.out 3).trans rfl
      have g90 := (blk_cell Hb7.out 0).trans rfl
      have lab7 := blk_lt Hcc7.out.ablk
      have hch : chOf E.rev was v = if hd = true ∧ wk.value = v then wk.changed else E.rev := by
        rw [← Hhd.out, ← Hwk.out]
        cases was <;> simp [chOf]
      obtain ⟨ch, hchd⟩ : ∃ ch, chOf E.rev was v = ch := ⟨_, rfl⟩
      rw [hchd] at hch
      have Hch := Lib.hid hch
      have Hchd := Lib.hid hchd
      clear hch hchd
      by_cases hve : hd = true ∧ wk.value = v
      · obtain ⟨rfl, hve⟩ := hve
        have hbe : (wk.value == v) = true := by simp [hve]
        have hce : ch = wk.changed := by rw [Hch.out, if_pos ⟨rfl, hve⟩]
        have Hce := Lib.hid hce
        clear hce
        go_wp2_with ((with_reducible refine at_store (t := 3) rfl ?_); go_must (refine ev_store (cs' := #[.int .i64 v, av', .int .i64 E.rev, .int .i64 wk.changed]) rfl rfl rfl rfl rfl rfl Hi3.out Hs3.out rfl Hb7.out (Nat.le_of_ble_eq_true rfl) rfl ?_; intro w8 hb8 hk8; rw [← Hce.out] at hb8); have Hb8 := Lib.hid hb8; clear hb8; (try simp only [Act.put, List.setIfInBounds_toArray, List.set_cons_zero, List.set_cons_succ]))
        have Hk78 := Lib.hid ((Keeps.refl (· = g9) w7).drew.trans hk8 (fun _ _ h => h))
        clear hk8 hve hbe
        have hcc8 := Hcc7.out.keepF Hk78.out (fun k _ e => by subst e; exact HW.out.nk)
        obtain ⟨f0, f1, f2, f3⟩ := hcc8.cells
        have hb48 := Hk78.out.blk Hb47.out (by show g4 ≠ g9; omega)
        have f4 := (blk_cell hb48 0).trans rfl
        have hb88 := Hk78.out.blk Hb87.out (by show g8 ≠ g9; omega)
        have hav8 := ownsRow_keep Hav7.out Hk78.out (fun b hb e => by subst e; exact own_ne Hav7.out Hb7.out (by decide) hb.symm)
        have ho8 := Ho7.out.keep Hk78.out (fun e => HW.out.nk (.inl (.inr (.inl e.symm))))
        obtain ⟨aA, ac, rfl⟩ := own_slice hav8
        have Hcc8 := Lib.hid hcc8
        have Hb48 := Lib.hid hb48
        have Hb88 := Lib.hid hb88
        have Hav8 := Lib.hid hav8
        have Ho8 := Lib.hid ho8
        clear hcc8 hb48 hb88 hav8 ho8
        refine wp_region_tree (.q 0 (.q 1 (.q 2 (.q 3 (.q 5 (.br [4, 6] (fun k => bif Nat.beq k 4 then .br [6] (fun k => .br [7] (fun k => .q 8 (.q 9 (.br [10] (fun k => .done))))) else .br [4] (fun k => .br [7] (fun k => .q 8 (.q 9 (.br [10] (fun k => .done)))))))))))) (fun w' => w'.cell? ⟨g4, 0, none⟩ = some (.pointer (some ⟨ab, 0, none⟩))) rfl (by kernel_rfl) (by kernel_rfl) (fun c a d v w h => by cases d <;> exact h) f4 ?_
        refine tree_q (v := ?v3_11) (some 60) rfl rfl rfl ?q3_11 ?h3_11; (case q3_11 => (intro w' hS; have s1 := hS; first | (go_simp; done) | (go_simp; rfl))); (try simp only [Act.put, List.setIfInBounds_toArray, List.set_cons_zero, List.set_cons_succ])
        refine tree_q (v := ?v3_10) (some 61) rfl rfl rfl ?q3_10 ?h3_10; (case q3_10 => (intro w' hS; have s1 := hS; first | (go_simp; done) | (go_simp; rfl))); (try simp only [Act.put, List.setIfInBounds_toArray, List.set_cons_zero, List.set_cons_succ])
        refine tree_q (v := ?v3_9) (some 62) rfl rfl rfl ?q3_9 ?h3_9; (case q3_9 => (intro w' hS; have s1 := hS; first | (go_simp; done) | (go_simp; rfl))); (try simp only [Act.put, List.setIfInBounds_toArray, List.set_cons_zero, List.set_cons_succ])
        refine tree_q (v := ?v3_8) (some 63) rfl rfl rfl ?q3_8 ?h3_8; (case q3_8 => (intro w' hS; have s1 := hS; first | (go_simp; done) | (go_simp; rfl))); (try simp only [Act.put, List.setIfInBounds_toArray, List.set_cons_zero, List.set_cons_succ])
        refine tree_q (v := ?v3_7) (some 65) rfl rfl rfl ?q3_7 ?h3_7; (case q3_7 => (intro w' hS; have s1 := hS; first | (go_simp; done) | (go_simp; rfl))); (try simp only [Act.put, List.setIfInBounds_toArray, List.set_cons_zero, List.set_cons_succ])
        refine tree_b rfl rfl ?b3_3 ?nb3_3
        case' b3_3 =>   -- 4: load 23 t63
          refine ev_quiet (v := .slice wA dn wc) rfl (by first | (go_simp; done) | (go_simp; rfl)) ?_
          (try simp only [Act.put, List.setIfInBounds_toArray, List.set_cons_zero, List.set_cons_succ])
          refine wpList_nil ⟨f4, ?_⟩
          refine tree_e rfl rfl ?_   -- 6: buildSlice 23 1 [(0, t65)]
          go_must (refine ev_slice (cs := #[.int .i64 qn]) (t := 3) (n := 1) (c := 1) rfl (by first | (go_simp; done) | (go_simp; rfl)) ?_; intro g10 w10 hg10 hl10 hb10 hk10)
          (try simp only [Act.put, List.setIfInBounds_toArray, List.set_cons_zero, List.set_cons_succ])
          have f2 := hk10.cell (w := w8.drew) f2 id
          have f4 := hk10.cell (w := w8.drew) f4 id
          have Hb10 := Lib.hid hb10
          clear hb10
          refine wpList_nil ⟨f4, ?_⟩
          refine tree_e rfl rfl ?_   -- 7: call append(t64, t66) :#[23, 23]
          go_must (refine ev_append rfl rfl Tryd.underlying23 info3 rfl (by decide) (base := 0) rfl (ownsRow_keep Hcc8.out.own ((Keeps.refl Nob w8).drew.then hk10) (fun _ _ => id)) (news := [.int .i64 qn]) rfl rfl (fun _ => ⟨_, rfl, World.news_of_block Hb10.out⟩) (by simp [Value.oneCell']) (by have := Hdn.out; omega) (by decide) (Nat.zero_le _) ?_; intro av1 w11 hown11 hk11 hr11 hf11; obtain ⟨ag, acap, rfl⟩ := hf11 (by decide))
          have Hown11 := Lib.hid hown11
          have Hr11 := Lib.hid hr11
          clear hown11 hf11 hr11
          (try simp only [Act.put, List.setIfInBounds_toArray, List.set_cons_zero, List.set_cons_succ])
          have f4 := hk11.cell f4 (own_ne Hcc8.out.own Hb48.out (by decide))
          refine wpList_nil ⟨f4, ?_⟩
          refine tree_q (v := ?v3_2) (some 68) rfl rfl rfl ?q3_2 ?h3_2; (case q3_2 => (intro w' hS; have s1 := hS; first | (go_simp; done) | (go_simp; rfl))); (try simp only [Act.put, List.setIfInBounds_toArray, List.set_cons_zero, List.set_cons_succ])
          refine tree_q (v := ?v3_1) (some 69) rfl rfl rfl ?q3_1 ?h3_1; (case q3_1 => (intro w' hS; have s1 := hS; first | (go_simp; done) | (go_simp; rfl))); (try simp only [Act.put, List.setIfInBounds_toArray, List.set_cons_zero, List.set_cons_succ])
          refine tree_e rfl rfl ?_   -- 10: store 23 t69 t67
          go_must (refine ev_store (cs' := #[.pointer (some ⟨eb, 0, none⟩), .map (some ob), .slice (some ⟨ag, 0, none⟩) (s9.done.length + 1) acap, .int .i64 E.most]) rfl rfl rfl rfl rfl rfl Hi23.out Hs23.out rfl (hk11.blk (hk10.blk (w := w8.drew) Hcc8.out.ablk id) (own_ne Hcc8.out.own Hcc8.out.ablk (by decide))) (Nat.le_of_ble_eq_true rfl) rfl ?_; intro w12 hb12 hk12)
          refine wpList_nil ⟨hk12.cell f4 (by show g4 ≠ ab; omega), ?_⟩
          refine tree_nil ?_
        case' nb3_3 =>
          refine tree_e rfl rfl ?b3_6
          case' b3_6 =>   -- 6: buildSlice 23 1 [(0, t65)]
            go_must (refine ev_slice (cs := #[.int .i64 qn]) (t := 3) (n := 1) (c := 1) rfl (by first | (go_simp; done) | (go_simp; rfl)) ?_; intro g10 w10 hg10 hl10 hb10 hk10)
            (try simp only [Act.put, List.setIfInBounds_toArray, List.set_cons_zero, List.set_cons_succ])
            have f2 := hk10.cell (w := w8.drew) f2 id
            have f4 := hk10.cell (w := w8.drew) f4 id
            have Hb10 := Lib.hid hb10
            clear hb10
            refine wpList_nil ⟨f4, ?_⟩
            refine tree_e rfl rfl ?_   -- 4: load 23 t63
            refine ev_quiet (v := .slice wA dn wc) rfl (by first | (go_simp; done) | (go_simp; rfl)) ?_
            (try simp only [Act.put, List.setIfInBounds_toArray, List.set_cons_zero, List.set_cons_succ])
            refine wpList_nil ⟨f4, ?_⟩
            refine tree_e rfl rfl ?_   -- 7: call append(t64, t66) :#[23, 23]
            go_must (refine ev_append rfl rfl Tryd.underlying23 info3 rfl (by decide) (base := 0) rfl (ownsRow_keep Hcc8.out.own ((Keeps.refl Nob w8).drew.then hk10) (fun _ _ => id)) (news := [.int .i64 qn]) rfl rfl (fun _ => ⟨_, rfl, World.news_of_block Hb10.out⟩) (by simp [Value.oneCell']) (by have := Hdn.out; omega) (by decide) (Nat.zero_le _) ?_; intro av1 w11 hown11 hk11 hr11 hf11; obtain ⟨ag, acap, rfl⟩ := hf11 (by decide))
            have Hown11 := Lib.hid hown11
            have Hr11 := Lib.hid hr11
            clear hown11 hf11 hr11
            (try simp only [Act.put, List.setIfInBounds_toArray, List.set_cons_zero, List.set_cons_succ])
            have f4 := hk11.cell f4 (own_ne Hcc8.out.own Hb48.out (by decide))
            refine wpList_nil ⟨f4, ?_⟩
            refine tree_q (v := ?v3_5) (some 68) rfl rfl rfl ?q3_5 ?h3_5; (case q3_5 => (intro w' hS; have s1 := hS; first | (go_simp; done) | (go_simp; rfl))); (try simp only [Act.put, List.setIfInBounds_toArray, List.set_cons_zero, List.set_cons_succ])
            refine tree_q (v := ?v3_4) (some 69) rfl rfl rfl ?q3_4 ?h3_4; (case q3_4 => (intro w' hS; have s1 := hS; first | (go_simp; done) | (go_simp; rfl))); (try simp only [Act.put, List.setIfInBounds_toArray, List.set_cons_zero, List.set_cons_succ])
            refine tree_e rfl rfl ?_   -- 10: store 23 t69 t67
            go_must (refine ev_store (cs' := #[.pointer (some ⟨eb, 0, none⟩), .map (some ob), .slice (some ⟨ag, 0, none⟩) (s9.done.length + 1) acap, .int .i64 E.most]) rfl rfl rfl rfl rfl rfl Hi23.out Hs23.out rfl (hk11.blk (hk10.blk (w := w8.drew) Hcc8.out.ablk id) (own_ne Hcc8.out.own Hcc8.out.ablk (by decide))) (Nat.le_of_ble_eq_true rfl) rfl ?_; intro w12 hb12 hk12)
            refine wpList_nil ⟨hk12.cell f4 (by show g4 ≠ ab; omega), ?_⟩
            refine tree_nil ?_
        all_goals
          skip
          have hkr := ((((Keeps.refl Nob w8).drew.then hk10).mono (M' := fun k => k = ab ∨ some k = Value.ownBlock (.slice wA dn wc)) (fun _ _ h => h.elim)).trans hk11 (fun _ _ h => .inr h)).trans hk12 (fun _ _ h => .inl h)
          have hp12 := Hcc8.out.wrote (q := (qn : Int)) (w3 := w12) hkr hb12 (ownsRow_keep Hown11.out hk12 (fun b hb e => by subst e; exact own_ne Hown11.out (hk11.blk (hk10.blk (w := w8.drew) Hcc8.out.ablk id) (own_ne Hcc8.out.own Hcc8.out.ablk (by decide))) (by decide) hb.symm)) (Hr11.out.imp id (fun ⟨b, h1, h2⟩ => ⟨b, h1, Nat.le_trans hk10.size h2⟩))
          have ho12 : OpenX w12 ob on := by
            obtain ⟨es, c, hm1, _⟩ := id Ho8.out
            exact Ho8.out.keep hkr (Hcc8.out.mapFar hm1)
          have hb9w := hp12.blk Hb8.out (fun h => HW.out.nk (.inl h))
          have lg8 := blk_lt Hb8''.out
          have hfar : Far w6 ab ob mb g9 (.slice wA dn wc) (.slice aA asked.length ac) g8 := Far.step ⟨lg8, fun h => N8.out (.inl h), by omega, by simp [Value.ownBlock]⟩ HT.out
          have nf8 : ¬ FP ab eb ib mb ob (.slice wA dn wc) X' g8 := by
            rintro (h | h | h | h)
            · exact hfar.h1 h
            · exact N8.out (.inr (.inl h))
            · exact N8.out (.inr (.inr (.inl h)))
            · exact N8.out (.inr (.inr (.inr ((HT.out.xx g8 lg8).1 h))))
          have nf8' := hp12.notF (blk_lt Hb88.out) nf8
          have hb8w := hp12.blk Hb88.out (fun h => nf8 (.inl h))
          have c0 := (blk_cell hb9w 0).trans rfl
          have c1 := (blk_cell hb9w 1).trans rfl
          have c2 := (blk_cell hb9w 2).trans rfl
          have c3 := (blk_cell hb9w 3).trans rfl
          have Hb8w := Lib.hid hb8w
          have Hp12 := Lib.hid hp12
          have Ho12 := Lib.hid ho12
          have Nf8 := Lib.hid nf8
          have Nf8' := Lib.hid nf8'
          clear hkr hp12 ho12 hb9w hfar nf8 nf8' hb8w f0 f1 f2 f3 f4 hk10 hk11 hk12 hb12
          go_wp2_with ((with_reducible refine at_store (t := 85) rfl ?_); go_must (refine ev_store (cs' := #[.int .i64 v, .slice aA asked.length ac, .int .i64 E.rev, .int .i64 ch]) rfl rfl rfl rfl rfl rfl Hi85.out Hs85.out rfl Hb8w.out (Nat.le_of_ble_eq_true rfl) rfl ?_; intro w13 hb13 hk13); (try simp only [Act.put, List.setIfInBounds_toArray, List.set_cons_zero, List.set_cons_succ]))
          have q0 := (blk_cell hb13 0).trans rfl
          have q1 := (blk_cell hb13 1).trans rfl
          have q2 := (blk_cell hb13 2).trans rfl
          have q3 := (blk_cell hb13 3).trans rfl
          refine bodyPost_ret (v := .agg #[.int .i64 v, .slice aA asked.length ac, .int .i64 E.rev, .int .i64 ch]) (by rw [results_cell1 rfl]; go_simp) rfl ?_
          unfold WorkPost
          dsimp only
          rw [if_neg (by rw [Hdn.out]; omega), Hchd.out]
          have hc13 := Hp12.out.core.keepF hk13 (fun k _ e => by subst e; exact Nf8'.out)
          have ha4 := (((AskPost.ofWT HK5.out HT.out (by omega) rfl HC.out).then (M := (· = g9)) (Hk7.out.trans Hk78.out (fun _ _ h => h)) (fun i _ e => by omega) Hcc8.out).trans Hp12.out).then hk13 (fun i _ e => by omega) hc13
          have hav12 := ownsRow_keep Hav8.out Hp12.out.keep (fun b hb h => HW.out.nv b hb (.inl h))
          have hav13 := ownsRow_keep hav12 hk13 (fun b hb e => by subst e; exact own_ne hav12 Hb8w.out (by decide) hb.symm)
          have hoo := Ho12.out.keep hk13 (fun e => Nf8.out (.inl (.inr (.inl e.symm))))
          refine ⟨fun k => X' k ∨ some k = Value.ownBlock (.slice aA asked.length ac), _, _, ⟨fun b hb => ⟨fun h => ?_, fun h => .inl ((ha4.xx b hb).2 h)⟩, ha4.keep, ha4.row, hc13.widen (fun k hk => ⟨(own_lt hav13 k hk.symm).1, Hp12.out.notF (own_lt Hav8.out k hk.symm).1 (HW.out.nv k hk.symm)⟩)⟩, hoo, IntsX.own hav13 _ (fun k hk => .inr hk), rfl⟩
          rcases h with h | h
          · exact (ha4.xx b hb).1 h
          · rcases HT.out.rowa with hr | ⟨b', hr, hlt⟩
            · rw [hr] at h; cases h
            · rw [hr] at h; injection h with h; omega
      · have hce : ch = E.rev := by rw [Hch.out, if_neg hve]
        cases hd with
        | true =>
          have hbe : (wk.value == v) = false := by simpa using hve
          go_wp2
          obtain ⟨w8, hw8⟩ : ∃ w8, w7.drew = w8 := ⟨_, rfl⟩
          have Hb8 := Lib.hid (show w8.heap[g9]? = some (.cells #[.int .i64 v, av', .int .i64 E.rev, .int .i64 ch] 85 (0, 0)) by rw [hce, ← hw8]; exact Hb7.out)
          have Hk78 := Lib.hid (show Keeps (· = g9) w7 w8 by rw [← hw8]; exact (Keeps.refl (· = g9) w7).drew)
          rw [hw8]
          clear hw8 hce hve hbe
          have hcc8 := Hcc7.out.keepF Hk78.out (fun k _ e => by subst e; exact HW.out.nk)
          obtain ⟨f0, f1, f2, f3⟩ := hcc8.cells
          have hb48 := Hk78.out.blk Hb47.out (by show g4 ≠ g9; omega)
          have f4 := (blk_cell hb48 0).trans rfl
          have hb88 := Hk78.out.blk Hb87.out (by show g8 ≠ g9; omega)
          have hav8 := ownsRow_keep Hav7.out Hk78.out (fun b hb e => by subst e; exact own_ne Hav7.out Hb7.out (by decide) hb.symm)
          have ho8 := Ho7.out.keep Hk78.out (fun e => HW.out.nk (.inl (.inr (.inl e.symm))))
          obtain ⟨aA, ac, rfl⟩ := own_slice hav8
          have Hcc8 := Lib.hid hcc8
          have Hb48 := Lib.hid hb48
          have Hb88 := Lib.hid hb88
          have Hav8 := Lib.hid hav8
          have Ho8 := Lib.hid ho8
          clear hcc8 hb48 hb88 hav8 ho8
          refine wp_region_tree (.q 0 (.q 1 (.q 2 (.q 3 (.q 5 (.br [4, 6] (fun k => bif Nat.beq k 4 then .br [6] (fun k => .br [7] (fun k => .q 8 (.q 9 (.br [10] (fun k => .done))))) else .br [4] (fun k => .br [7] (fun k => .q 8 (.q 9 (.br [10] (fun k => .done)))))))))))) (fun w' => w'.cell? ⟨g4, 0, none⟩ = some (.pointer (some ⟨ab, 0, none⟩))) rfl (by kernel_rfl) (by kernel_rfl) (fun c a d v w h => by cases d <;> exact h) f4 ?_
          refine tree_q (v := ?v4_11) (some 60) rfl rfl rfl ?q4_11 ?h4_11; (case q4_11 => (intro w' hS; have s1 := hS; first | (go_simp; done) | (go_simp; rfl))); (try simp only [Act.put, List.setIfInBounds_toArray, List.set_cons_zero, List.set_cons_succ])
          refine tree_q (v := ?v4_10) (some 61) rfl rfl rfl ?q4_10 ?h4_10; (case q4_10 => (intro w' hS; have s1 := hS; first | (go_simp; done) | (go_simp; rfl))); (try simp only [Act.put, List.setIfInBounds_toArray, List.set_cons_zero, List.set_cons_succ])
          refine tree_q (v := ?v4_9) (some 62) rfl rfl rfl ?q4_9 ?h4_9; (case q4_9 => (intro w' hS; have s1 := hS; first | (go_simp; done) | (go_simp; rfl))); (try simp only [Act.put, List.setIfInBounds_toArray, List.set_cons_zero, List.set_cons_succ])
          refine tree_q (v := ?v4_8) (some 63) rfl rfl rfl ?q4_8 ?h4_8; (case q4_8 => (intro w' hS; have s1 := hS; first | (go_simp; done) | (go_simp; rfl))); (try simp only [Act.put, List.setIfInBounds_toArray, List.set_cons_zero, List.set_cons_succ])
          refine tree_q (v := ?v4_7) (some 65) rfl rfl rfl ?q4_7 ?h4_7; (case q4_7 => (intro w' hS; have s1 := hS; first | (go_simp; done) | (go_simp; rfl))); (try simp only [Act.put, List.setIfInBounds_toArray, List.set_cons_zero, List.set_cons_succ])
          refine tree_b rfl rfl ?b4_3 ?nb4_3
          case' b4_3 =>   -- 4: load 23 t63
            refine ev_quiet (v := .slice wA dn wc) rfl (by first | (go_simp; done) | (go_simp; rfl)) ?_
            (try simp only [Act.put, List.setIfInBounds_toArray, List.set_cons_zero, List.set_cons_succ])
            refine wpList_nil ⟨f4, ?_⟩
            refine tree_e rfl rfl ?_   -- 6: buildSlice 23 1 [(0, t65)]
            go_must (refine ev_slice (cs := #[.int .i64 qn]) (t := 3) (n := 1) (c := 1) rfl (by first | (go_simp; done) | (go_simp; rfl)) ?_; intro g10 w10 hg10 hl10 hb10 hk10)
            (try simp only [Act.put, List.setIfInBounds_toArray, List.set_cons_zero, List.set_cons_succ])
            have f2 := hk10.cell (w := w8.drew) f2 id
            have f4 := hk10.cell (w := w8.drew) f4 id
            have Hb10 := Lib.hid hb10
            clear hb10
            refine wpList_nil ⟨f4, ?_⟩
            refine tree_e rfl rfl ?_   -- 7: call append(t64, t66) :#[23, 23]
            go_must (refine ev_append rfl rfl Tryd.underlying23 info3 rfl (by decide) (base := 0) rfl (ownsRow_keep Hcc8.out.own ((Keeps.refl Nob w8).drew.then hk10) (fun _ _ => id)) (news := [.int .i64 qn]) rfl rfl (fun _ => ⟨_, rfl, World.news_of_block Hb10.out⟩) (by simp [Value.oneCell']) (by have := Hdn.out; omega) (by decide) (Nat.zero_le _) ?_; intro av1 w11 hown11 hk11 hr11 hf11; obtain ⟨ag, acap, rfl⟩ := hf11 (by decide))
            have Hown11 := Lib.hid hown11
            have Hr11 := Lib.hid hr11
            clear hown11 hf11 hr11
            (try simp only [Act.put, List.setIfInBounds_toArray, List.set_cons_zero, List.set_cons_succ])
            have f4 := hk11.cell f4 (own_ne Hcc8.out.own Hb48.out (by decide))
            refine wpList_nil ⟨f4, ?_⟩
            refine tree_q (v := ?v4_2) (some 68) rfl rfl rfl ?q4_2 ?h4_2; (case q4_2 => (intro w' hS; have s1 := hS; first | (go_simp; done) | (go_simp; rfl))); (try simp only [Act.put, List.setIfInBounds_toArray, List.set_cons_zero, List.set_cons_succ])
            refine tree_q (v := ?v4_1) (some 69) rfl rfl rfl ?q4_1 ?h4_1; (case q4_1 => (intro w' hS; have s1 := hS; first | (go_simp; done) | (go_simp; rfl))); (try simp only [Act.put, List.setIfInBounds_toArray, List.set_cons_zero, List.set_cons_succ])
            refine tree_e rfl rfl ?_   -- 10: store 23 t69 t67
            go_must (refine ev_store (cs' := #[.pointer (some ⟨eb, 0, none⟩), .map (some ob), .slice (some ⟨ag, 0, none⟩) (s9.done.length + 1) acap, .int .i64 E.most]) rfl rfl rfl rfl rfl rfl Hi23.out Hs23.out rfl (hk11.blk (hk10.blk (w := w8.drew) Hcc8.out.ablk id) (own_ne Hcc8.out.own Hcc8.out.ablk (by decide))) (Nat.le_of_ble_eq_true rfl) rfl ?_; intro w12 hb12 hk12)
            refine wpList_nil ⟨hk12.cell f4 (by show g4 ≠ ab; omega), ?_⟩
            refine tree_nil ?_
          case' nb4_3 =>
            refine tree_e rfl rfl ?b4_6
            case' b4_6 =>   -- 6: buildSlice 23 1 [(0, t65)]
              go_must (refine ev_slice (cs := #[.int .i64 qn]) (t := 3) (n := 1) (c := 1) rfl (by first | (go_simp; done) | (go_simp; rfl)) ?_; intro g10 w10 hg10 hl10 hb10 hk10)
              (try simp only [Act.put, List.setIfInBounds_toArray, List.set_cons_zero, List.set_cons_succ])
              have f2 := hk10.cell (w := w8.drew) f2 id
              have f4 := hk10.cell (w := w8.drew) f4 id
              have Hb10 := Lib.hid hb10
              clear hb10
              refine wpList_nil ⟨f4, ?_⟩
              refine tree_e rfl rfl ?_   -- 4: load 23 t63
              refine ev_quiet (v := .slice wA dn wc) rfl (by first | (go_simp; done) | (go_simp; rfl)) ?_
              (try simp only [Act.put, List.setIfInBounds_toArray, List.set_cons_zero, List.set_cons_succ])
              refine wpList_nil ⟨f4, ?_⟩
              refine tree_e rfl rfl ?_   -- 7: call append(t64, t66) :#[23, 23]
              go_must (refine ev_append rfl rfl Tryd.underlying23 info3 rfl (by decide) (base := 0) rfl (ownsRow_keep Hcc8.out.own ((Keeps.refl Nob w8).drew.then hk10) (fun _ _ => id)) (news := [.int .i64 qn]) rfl rfl (fun _ => ⟨_, rfl, World.news_of_block Hb10.out⟩) (by simp [Value.oneCell']) (by have := Hdn.out; omega) (by decide) (Nat.zero_le _) ?_; intro av1 w11 hown11 hk11 hr11 hf11; obtain ⟨ag, acap, rfl⟩ := hf11 (by decide))
              have Hown11 := Lib.hid hown11
              have Hr11 := Lib.hid hr11
              clear hown11 hf11 hr11
              (try simp only [Act.put, List.setIfInBounds_toArray, List.set_cons_zero, List.set_cons_succ])
              have f4 := hk11.cell f4 (own_ne Hcc8.out.own Hb48.out (by decide))
              refine wpList_nil ⟨f4, ?_⟩
              refine tree_q (v := ?v4_5) (some 68) rfl rfl rfl ?q4_5 ?h4_5; (case q4_5 => (intro w' hS; have s1 := hS; first | (go_simp; done) | (go_simp; rfl))); (try simp only [Act.put, List.setIfInBounds_toArray, List.set_cons_zero, List.set_cons_succ])
              refine tree_q (v := ?v4_4) (some 69) rfl rfl rfl ?q4_4 ?h4_4; (case q4_4 => (intro w' hS; have s1 := hS; first | (go_simp; done) | (go_simp; rfl))); (try simp only [Act.put, List.setIfInBounds_toArray, List.set_cons_zero, List.set_cons_succ])
              refine tree_e rfl rfl ?_   -- 10: store 23 t69 t67
              go_must (refine ev_store (cs' := #[.pointer (some ⟨eb, 0, none⟩), .map (some ob), .slice (some ⟨ag, 0, none⟩) (s9.done.length + 1) acap, .int .i64 E.most]) rfl rfl rfl rfl rfl rfl Hi23.out Hs23.out rfl (hk11.blk (hk10.blk (w := w8.drew) Hcc8.out.ablk id) (own_ne Hcc8.out.own Hcc8.out.ablk (by decide))) (Nat.le_of_ble_eq_true rfl) rfl ?_; intro w12 hb12 hk12)
              refine wpList_nil ⟨hk12.cell f4 (by show g4 ≠ ab; omega), ?_⟩
              refine tree_nil ?_
          all_goals
            skip
            have hkr := ((((Keeps.refl Nob w8).drew.then hk10).mono (M' := fun k => k = ab ∨ some k = Value.ownBlock (.slice wA dn wc)) (fun _ _ h => h.elim)).trans hk11 (fun _ _ h => .inr h)).trans hk12 (fun _ _ h => .inl h)
            have hp12 := Hcc8.out.wrote (q := (qn : Int)) (w3 := w12) hkr hb12 (ownsRow_keep Hown11.out hk12 (fun b hb e => by subst e; exact own_ne Hown11.out (hk11.blk (hk10.blk (w := w8.drew) Hcc8.out.ablk id) (own_ne Hcc8.out.own Hcc8.out.ablk (by decide))) (by decide) hb.symm)) (Hr11.out.imp id (fun ⟨b, h1, h2⟩ => ⟨b, h1, Nat.le_trans hk10.size h2⟩))
            have ho12 : OpenX w12 ob on := by
              obtain ⟨es, c, hm1, _⟩ := id Ho8.out
              exact Ho8.out.keep hkr (Hcc8.out.mapFar hm1)
            have hb9w := hp12.blk Hb8.out (fun h => HW.out.nk (.inl h))
            have lg8 := blk_lt Hb8''.out
            have hfar : Far w6 ab ob mb g9 (.slice wA dn wc) (.slice aA asked.length ac) g8 := Far.step ⟨lg8, fun h => N8.out (.inl h), by omega, by simp [Value.ownBlock]⟩ HT.out
            have nf8 : ¬ FP ab eb ib mb ob (.slice wA dn wc) X' g8 := by
              rintro (h | h | h | h)
              · exact hfar.h1 h
              · exact N8.out (.inr (.inl h))
              · exact N8.out (.inr (.inr (.inl h)))
              · exact N8.out (.inr (.inr (.inr ((HT.out.xx g8 lg8).1 h))))
            have nf8' := hp12.notF (blk_lt Hb88.out) nf8
            have hb8w := hp12.blk Hb88.out (fun h => nf8 (.inl h))
            have c0 := (blk_cell hb9w 0).trans rfl
            have c1 := (blk_cell hb9w 1).trans rfl
            have c2 := (blk_cell hb9w 2).trans rfl
            have c3 := (blk_cell hb9w 3).trans rfl
            have Hb8w := Lib.hid hb8w
            have Hp12 := Lib.hid hp12
            have Ho12 := Lib.hid ho12
            have Nf8 := Lib.hid nf8
            have Nf8' := Lib.hid nf8'
            clear hkr hp12 ho12 hb9w hfar nf8 nf8' hb8w f0 f1 f2 f3 f4 hk10 hk11 hk12 hb12
            go_wp2_with ((with_reducible refine at_store (t := 85) rfl ?_); go_must (refine ev_store (cs' := #[.int .i64 v, .slice aA asked.length ac, .int .i64 E.rev, .int .i64 ch]) rfl rfl rfl rfl rfl rfl Hi85.out Hs85.out rfl Hb8w.out (Nat.le_of_ble_eq_true rfl) rfl ?_; intro w13 hb13 hk13); (try simp only [Act.put, List.setIfInBounds_toArray, List.set_cons_zero, List.set_cons_succ]))
            have q0 := (blk_cell hb13 0).trans rfl
            have q1 := (blk_cell hb13 1).trans rfl
            have q2 := (blk_cell hb13 2).trans rfl
            have q3 := (blk_cell hb13 3).trans rfl
            refine bodyPost_ret (v := .agg #[.int .i64 v, .slice aA asked.length ac, .int .i64 E.rev, .int .i64 ch]) (by rw [results_cell1 rfl]; go_simp) rfl ?_
            unfold WorkPost
            dsimp only
            rw [if_neg (by rw [Hdn.out]; omega), Hchd.out]
            have hc13 := Hp12.out.core.keepF hk13 (fun k _ e => by subst e; exact Nf8'.out)
            have ha4 := (((AskPost.ofWT HK5.out HT.out (by omega) rfl HC.out).then (M := (· = g9)) (Hk7.out.trans Hk78.out (fun _ _ h => h)) (fun i _ e => by omega) Hcc8.out).trans Hp12.out).then hk13 (fun i _ e => by omega) hc13
            have hav12 := ownsRow_keep Hav8.out Hp12.out.keep (fun b hb h => HW.out.nv b hb (.inl h))
            have hav13 := ownsRow_keep hav12 hk13 (fun b hb e => by subst e; exact own_ne hav12 Hb8w.out (by decide) hb.symm)
            have hoo := Ho12.out.keep hk13 (fun e => Nf8.out (.inl (.inr (.inl e.symm))))
            refine ⟨fun k => X' k ∨ some k = Value.ownBlock (.slice aA asked.length ac), _, _, ⟨fun b hb => ⟨fun h => ?_, fun h => .inl ((ha4.xx b hb).2 h)⟩, ha4.keep, ha4.row, hc13.widen (fun k hk => ⟨(own_lt hav13 k hk.symm).1, Hp12.out.notF (own_lt Hav8.out k hk.symm).1 (HW.out.nv k hk.symm)⟩)⟩, hoo, IntsX.own hav13 _ (fun k hk => .inr hk), rfl⟩
            rcases h with h | h
            · exact (ha4.xx b hb).1 h
            · rcases HT.out.rowa with hr | ⟨b', hr, hlt⟩
              · rw [hr] at h; cases h
              · rw [hr] at h; injection h with h; omega
        | false =>
          go_wp2
          obtain ⟨w8, hw8⟩ : ∃ w8, w7.drew = w8 := ⟨_, rfl⟩
          have Hb8 := Lib.hid (show w8.heap[g9]? = some (.cells #[.int .i64 v, av', .int .i64 E.rev, .int .i64 ch] 85 (0, 0)) by rw [hce, ← hw8]; exact Hb7.out)
          have Hk78 := Lib.hid (show Keeps (· = g9) w7 w8 by rw [← hw8]; exact (Keeps.refl (· = g9) w7).drew)
          rw [hw8]
          clear hw8 hce hve
          have hcc8 := Hcc7.out.keepF Hk78.out (fun k _ e => by subst e; exact HW.out.nk)
          obtain ⟨f0, f1, f2, f3⟩ := hcc8.cells
          have hb48 := Hk78.out.blk Hb47.out (by show g4 ≠ g9; omega)
          have f4 := (blk_cell hb48 0).trans rfl
          have hb88 := Hk78.out.blk Hb87.out (by show g8 ≠ g9; omega)
          have hav8 := ownsRow_keep Hav7.out Hk78.out (fun b hb e => by subst e; exact own_ne Hav7.out Hb7.out (by decide) hb.symm)
          have ho8 := Ho7.out.keep Hk78.out (fun e => HW.out.nk (.inl (.inr (.inl e.symm))))
          obtain ⟨aA, ac, rfl⟩ := own_slice hav8
          have Hcc8 := Lib.hid hcc8
          have Hb48 := Lib.hid hb48
          have Hb88 := Lib.hid hb88
          have Hav8 := Lib.hid hav8
          have Ho8 := Lib.hid ho8
          clear hcc8 hb48 hb88 hav8 ho8
          refine wp_region_tree (.q 0 (.q 1 (.q 2 (.q 3 (.q 5 (.br [4, 6] (fun k => bif Nat.beq k 4 then .br [6] (fun k => .br [7] (fun k => .q 8 (.q 9 (.br [10] (fun k => .done))))) else .br [4] (fun k => .br [7] (fun k => .q 8 (.q 9 (.br [10] (fun k => .done)))))))))))) (fun w' => w'.cell? ⟨g4, 0, none⟩ = some (.pointer (some ⟨ab, 0, none⟩))) rfl (by kernel_rfl) (by kernel_rfl) (fun c a d v w h => by cases d <;> exact h) f4 ?_
          refine tree_q (v := ?v5_11) (some 60) rfl rfl rfl ?q5_11 ?h5_11; (case q5_11 => (intro w' hS; have s1 := hS; first | (go_simp; done) | (go_simp; rfl))); (try simp only [Act.put, List.setIfInBounds_toArray, List.set_cons_zero, List.set_cons_succ])
          refine tree_q (v := ?v5_10) (some 61) rfl rfl rfl ?q5_10 ?h5_10; (case q5_10 => (intro w' hS; have s1 := hS; first | (go_simp; done) | (go_simp; rfl))); (try simp only [Act.put, List.setIfInBounds_toArray, List.set_cons_zero, List.set_cons_succ])
          refine tree_q (v := ?v5_9) (some 62) rfl rfl rfl ?q5_9 ?h5_9; (case q5_9 => (intro w' hS; have s1 := hS; first | (go_simp; done) | (go_simp; rfl))); (try simp only [Act.put, List.setIfInBounds_toArray, List.set_cons_zero, List.set_cons_succ])
          refine tree_q (v := ?v5_8) (some 63) rfl rfl rfl ?q5_8 ?h5_8; (case q5_8 => (intro w' hS; have s1 := hS; first | (go_simp; done) | (go_simp; rfl))); (try simp only [Act.put, List.setIfInBounds_toArray, List.set_cons_zero, List.set_cons_succ])
          refine tree_q (v := ?v5_7) (some 65) rfl rfl rfl ?q5_7 ?h5_7; (case q5_7 => (intro w' hS; have s1 := hS; first | (go_simp; done) | (go_simp; rfl))); (try simp only [Act.put, List.setIfInBounds_toArray, List.set_cons_zero, List.set_cons_succ])
          refine tree_b rfl rfl ?b5_3 ?nb5_3
          case' b5_3 =>   -- 4: load 23 t63
            refine ev_quiet (v := .slice wA dn wc) rfl (by first | (go_simp; done) | (go_simp; rfl)) ?_
            (try simp only [Act.put, List.setIfInBounds_toArray, List.set_cons_zero, List.set_cons_succ])
            refine wpList_nil ⟨f4, ?_⟩
            refine tree_e rfl rfl ?_   -- 6: buildSlice 23 1 [(0, t65)]
            go_must (refine ev_slice (cs := #[.int .i64 qn]) (t := 3) (n := 1) (c := 1) rfl (by first | (go_simp; done) | (go_simp; rfl)) ?_; intro g10 w10 hg10 hl10 hb10 hk10)
            (try simp only [Act.put, List.setIfInBounds_toArray, List.set_cons_zero, List.set_cons_succ])
            have f2 := hk10.cell (w := w8.drew) f2 id
            have f4 := hk10.cell (w := w8.drew) f4 id
            have Hb10 := Lib.hid hb10
            clear hb10
            refine wpList_nil ⟨f4, ?_⟩
            refine tree_e rfl rfl ?_   -- 7: call append(t64, t66) :#[23, 23]
            go_must (refine ev_append rfl rfl Tryd.underlying23 info3 rfl (by decide) (base := 0) rfl (ownsRow_keep Hcc8.out.own ((Keeps.refl Nob w8).drew.then hk10) (fun _ _ => id)) (news := [.int .i64 qn]) rfl rfl (fun _ => ⟨_, rfl, World.news_of_block Hb10.out⟩) (by simp [Value.oneCell']) (by have := Hdn.out; omega) (by decide) (Nat.zero_le _) ?_; intro av1 w11 hown11 hk11 hr11 hf11; obtain ⟨ag, acap, rfl⟩ := hf11 (by decide))
            have Hown11 := Lib.hid hown11
            have Hr11 := Lib.hid hr11
            clear hown11 hf11 hr11
            (try simp only [Act.put, List.setIfInBounds_toArray, List.set_cons_zero, List.set_cons_succ])
            have f4 := hk11.cell f4 (own_ne Hcc8.out.own Hb48.out (by decide))
            refine wpList_nil ⟨f4, ?_⟩
            refine tree_q (v := ?v5_2) (some 68) rfl rfl rfl ?q5_2 ?h5_2; (case q5_2 => (intro w' hS; have s1 := hS; first | (go_simp; done) | (go_simp; rfl))); (try simp only [Act.put, List.setIfInBounds_toArray, List.set_cons_zero, List.set_cons_succ])
            refine tree_q (v := ?v5_1) (some 69) rfl rfl rfl ?q5_1 ?h5_1; (case q5_1 => (intro w' hS; have s1 := hS; first | (go_simp; done) | (go_simp; rfl))); (try simp only [Act.put, List.setIfInBounds_toArray, List.set_cons_zero, List.set_cons_succ])
            refine tree_e rfl rfl ?_   -- 10: store 23 t69 t67
            go_must (refine ev_store (cs' := #[.pointer (some ⟨eb, 0, none⟩), .map (some ob), .slice (some ⟨ag, 0, none⟩) (s9.done.length + 1) acap, .int .i64 E.most]) rfl rfl rfl rfl rfl rfl Hi23.out Hs23.out rfl (hk11.blk (hk10.blk (w := w8.drew) Hcc8.out.ablk id) (own_ne Hcc8.out.own Hcc8.out.ablk (by decide))) (Nat.le_of_ble_eq_true rfl) rfl ?_; intro w12 hb12 hk12)
            refine wpList_nil ⟨hk12.cell f4 (by show g4 ≠ ab; omega), ?_⟩
            refine tree_nil ?_
          case' nb5_3 =>
            refine tree_e rfl rfl ?b5_6
            case' b5_6 =>   -- 6: buildSlice 23 1 [(0, t65)]
              go_must (refine ev_slice (cs := #[.int .i64 qn]) (t := 3) (n := 1) (c := 1) rfl (by first | (go_simp; done) | (go_simp; rfl)) ?_; intro g10 w10 hg10 hl10 hb10 hk10)
              (try simp only [Act.put, List.setIfInBounds_toArray, List.set_cons_zero, List.set_cons_succ])
              have f2 := hk10.cell (w := w8.drew) f2 id
              have f4 := hk10.cell (w := w8.drew) f4 id
              have Hb10 := Lib.hid hb10
              clear hb10
              refine wpList_nil ⟨f4, ?_⟩
              refine tree_e rfl rfl ?_   -- 4: load 23 t63
              refine ev_quiet (v := .slice wA dn wc) rfl (by first | (go_simp; done) | (go_simp; rfl)) ?_
              (try simp only [Act.put, List.setIfInBounds_toArray, List.set_cons_zero, List.set_cons_succ])
              refine wpList_nil ⟨f4, ?_⟩
              refine tree_e rfl rfl ?_   -- 7: call append(t64, t66) :#[23, 23]
              go_must (refine ev_append rfl rfl Tryd.underlying23 info3 rfl (by decide) (base := 0) rfl (ownsRow_keep Hcc8.out.own ((Keeps.refl Nob w8).drew.then hk10) (fun _ _ => id)) (news := [.int .i64 qn]) rfl rfl (fun _ => ⟨_, rfl, World.news_of_block Hb10.out⟩) (by simp [Value.oneCell']) (by have := Hdn.out; omega) (by decide) (Nat.zero_le _) ?_; intro av1 w11 hown11 hk11 hr11 hf11; obtain ⟨ag, acap, rfl⟩ := hf11 (by decide))
              have Hown11 := Lib.hid hown11
              have Hr11 := Lib.hid hr11
              clear hown11 hf11 hr11
              (try simp only [Act.put, List.setIfInBounds_toArray, List.set_cons_zero, List.set_cons_succ])
              have f4 := hk11.cell f4 (own_ne Hcc8.out.own Hb48.out (by decide))
              refine wpList_nil ⟨f4, ?_⟩
              refine tree_q (v := ?v5_5) (some 68) rfl rfl rfl ?q5_5 ?h5_5; (case q5_5 => (intro w' hS; have s1 := hS; first | (go_simp; done) | (go_simp; rfl))); (try simp only [Act.put, List.setIfInBounds_toArray, List.set_cons_zero, List.set_cons_succ])
              refine tree_q (v := ?v5_4) (some 69) rfl rfl rfl ?q5_4 ?h5_4; (case q5_4 => (intro w' hS; have s1 := hS; first | (go_simp; done) | (go_simp; rfl))); (try simp only [Act.put, List.setIfInBounds_toArray, List.set_cons_zero, List.set_cons_succ])
              refine tree_e rfl rfl ?_   -- 10: store 23 t69 t67
              go_must (refine ev_store (cs' := #[.pointer (some ⟨eb, 0, none⟩), .map (some ob), .slice (some ⟨ag, 0, none⟩) (s9.done.length + 1) acap, .int .i64 E.most]) rfl rfl rfl rfl rfl rfl Hi23.out Hs23.out rfl (hk11.blk (hk10.blk (w := w8.drew) Hcc8.out.ablk id) (own_ne Hcc8.out.own Hcc8.out.ablk (by decide))) (Nat.le_of_ble_eq_true rfl) rfl ?_; intro w12 hb12 hk12)
              refine wpList_nil ⟨hk12.cell f4 (by show g4 ≠ ab; omega), ?_⟩
              refine tree_nil ?_
          all_goals
            skip
            have hkr := ((((Keeps.refl Nob w8).drew.then hk10).mono (M' := fun k => k = ab ∨ some k = Value.ownBlock (.slice wA dn wc)) (fun _ _ h => h.elim)).trans hk11 (fun _ _ h => .inr h)).trans hk12 (fun _ _ h => .inl h)
            have hp12 := Hcc8.out.wrote (q := (qn : Int)) (w3 := w12) hkr hb12 (ownsRow_keep Hown11.out hk12 (fun b hb e => by subst e; exact own_ne Hown11.out (hk11.blk (hk10.blk (w := w8.drew) Hcc8.out.ablk id) (own_ne Hcc8.out.own Hcc8.out.ablk (by decide))) (by decide) hb.symm)) (Hr11.out.imp id (fun ⟨b, h1, h2⟩ => ⟨b, h1, Nat.le_trans hk10.size h2⟩))
            have ho12 : OpenX w12 ob on := by
              obtain ⟨es, c, hm1, _⟩ := id Ho8.out
              exact Ho8.out.keep hkr (Hcc8.out.mapFar hm1)
            have hb9w := hp12.blk Hb8.out (fun h => HW.out.nk (.inl h))
            have lg8 := blk_lt Hb8''.out
            have hfar : Far w6 ab ob mb g9 (.slice wA dn wc) (.slice aA asked.length ac) g8 := Far.step ⟨lg8, fun h => N8.out (.inl h), by omega, by simp [Value.ownBlock]⟩ HT.out
            have nf8 : ¬ FP ab eb ib mb ob (.slice wA dn wc) X' g8 := by
              rintro (h | h | h | h)
              · exact hfar.h1 h
              · exact N8.out (.inr (.inl h))
              · exact N8.out (.inr (.inr (.inl h)))
              · exact N8.out (.inr (.inr (.inr ((HT.out.xx g8 lg8).1 h))))
            have nf8' := hp12.notF (blk_lt Hb88.out) nf8
            have hb8w := hp12.blk Hb88.out (fun h => nf8 (.inl h))
            have c0 := (blk_cell hb9w 0).trans rfl
            have c1 := (blk_cell hb9w 1).trans rfl
            have c2 := (blk_cell hb9w 2).trans rfl
            have c3 := (blk_cell hb9w 3).trans rfl
            have Hb8w := Lib.hid hb8w
            have Hp12 := Lib.hid hp12
            have Ho12 := Lib.hid ho12
            have Nf8 := Lib.hid nf8
            have Nf8' := Lib.hid nf8'
            clear hkr hp12 ho12 hb9w hfar nf8 nf8' hb8w f0 f1 f2 f3 f4 hk10 hk11 hk12 hb12
            go_wp2_with ((with_reducible refine at_store (t := 85) rfl ?_); go_must (refine ev_store (cs' := #[.int .i64 v, .slice aA asked.length ac, .int .i64 E.rev, .int .i64 ch]) rfl rfl rfl rfl rfl rfl Hi85.out Hs85.out rfl Hb8w.out (Nat.le_of_ble_eq_true rfl) rfl ?_; intro w13 hb13 hk13); (try simp only [Act.put, List.setIfInBounds_toArray, List.set_cons_zero, List.set_cons_succ]))
            have q0 := (blk_cell hb13 0).trans rfl
            have q1 := (blk_cell hb13 1).trans rfl
            have q2 := (blk_cell hb13 2).trans rfl
            have q3 := (blk_cell hb13 3).trans rfl
            refine bodyPost_ret (v := .agg #[.int .i64 v, .slice aA asked.length ac, .int .i64 E.rev, .int .i64 ch]) (by rw [results_cell1 rfl]; go_simp) rfl ?_
            unfold WorkPost
            dsimp only
            rw [if_neg (by rw [Hdn.out]; omega), Hchd.out]
            have hc13 := Hp12.out.core.keepF hk13 (fun k _ e => by subst e; exact Nf8'.out)
            have ha4 := (((AskPost.ofWT HK5.out HT.out (by omega) rfl HC.out).then (M := (· = g9)) (Hk7.out.trans Hk78.out (fun _ _ h => h)) (fun i _ e => by omega) Hcc8.out).trans Hp12.out).then hk13 (fun i _ e => by omega) hc13
            have hav12 := ownsRow_keep Hav8.out Hp12.out.keep (fun b hb h => HW.out.nv b hb (.inl h))
            have hav13 := ownsRow_keep hav12 hk13 (fun b hb e => by subst e; exact own_ne hav12 Hb8w.out (by decide) hb.symm)
            have hoo := Ho12.out.keep hk13 (fun e => Nf8.out (.inl (.inr (.inl e.symm))))
            refine ⟨fun k => X' k ∨ some k = Value.ownBlock (.slice aA asked.length ac), _, _, ⟨fun b hb => ⟨fun h => ?_, fun h => .inl ((ha4.xx b hb).2 h)⟩, ha4.keep, ha4.row, hc13.widen (fun k hk => ⟨(own_lt hav13 k hk.symm).1, Hp12.out.notF (own_lt Hav8.out k hk.symm).1 (HW.out.nv k hk.symm)⟩)⟩, hoo, IntsX.own hav13 _ (fun k hk => .inr hk), rfl⟩
            rcases h with h | h
            · exact (ha4.xx b hb).1 h
            · rcases HT.out.rowa with hr | ⟨b', hr, hlt⟩
              · rw [hr] at h; cases h
              · rw [hr] at h; injection h with h; omega
end Go.Proofs.QW
