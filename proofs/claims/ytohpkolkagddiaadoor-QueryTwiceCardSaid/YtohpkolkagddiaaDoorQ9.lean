/-
  Asking (ask), in memory: one level, from nested askings that come to the model's. Condition: nested askings come to the model's.
-/
import Derived.Test.YtohpkolkagddiaaDoorQ8
namespace Go.Proofs.QW
open Go.RowKit Go.Proofs.KL Go.Proofs.QM
set_option maxRecDepth 100000
set_option linter.unusedSimpArgs false
set_option linter.unusedVariables false

section
variable {P : Program} {ops : Array Oper} {rest : List Oper} {o : Oper} {a : Act} {Q : Exit → Act → World → Prop}
theorem at_update {t : TypeId} {m k v : Operand} {W : World} (_h : o.op = .mapUpdate t m k v) (h : wpList P ops Q (o :: rest) a W) : wpList P ops Q (o :: rest) a W := h
theorem at_delete {m k : Operand} {t u : TypeId} {W : World} (_h : o.op = .call { callee := .builtin .delete, args := #[m, k], argTypes := #[t, u] }) (h : wpList P ops Q (o :: rest) a W) : wpList P ops Q (o :: rest) a W := h
end
theorem zero4 : (Tryd.prog.info? 4).map (·.zero) = some (some (.bool false)) := by kernel_rfl
/-- A block of cells, or one that holds a map, is not another of the asking's. -/
theorem AskC.obFar {w : World} {X : Nat → Prop} {ab eb ib mb ob : Nat} {E : Env} {s : PS} {wv : Value} (h : AskC w X ab eb ib mb ob E s wv) : ob ≠ ab ∧ ob ≠ eb ∧ ob ≠ ib ∧ ob ≠ mb ∧ ¬ some ob = wv.ownBlock := by
  obtain ⟨⟨rv, c, heb, _⟩, ⟨cs, hib, _⟩, _, _, _, _⟩ := id h.eng
  obtain ⟨es, c, ho⟩ := h.oblk
  have hf := h.mapFar ho
  refine ⟨fun e => hf (.inl e), fun e => ?_, fun e => ?_, fun e => h.mo e.symm, fun e => hf (.inr e)⟩
  · subst e; have := ho.symm.trans heb; injection this with this; cases this
  · subst e; have := ho.symm.trans hib; injection this with this; cases this
theorem AskC.mbFar {w : World} {X : Nat → Prop} {ab eb ib mb ob : Nat} {E : Env} {s : PS} {wv : Value} (h : AskC w X ab eb ib mb ob E s wv) : mb ≠ ab ∧ mb ≠ eb ∧ mb ≠ ib ∧ mb ≠ ob ∧ ¬ some mb = wv.ownBlock := by
  obtain ⟨⟨rv, c, heb, _⟩, ⟨cs, hib, _⟩, ⟨es, cl, hmb, _⟩, _, _, _⟩ := id h.eng
  have hf := h.mapFar hmb
  refine ⟨fun e => hf (.inl e), fun e => ?_, fun e => ?_, fun e => h.mo e, fun e => hf (.inr e)⟩
  · subst e; have := hmb.symm.trans heb; injection this with this; cases this
  · subst e; have := hmb.symm.trans hib; injection this with this; cases this
theorem AskC.wroteOpen {w w' : World} {X : Nat → Prop} {ab eb ib mb ob : Nat} {E : Env} {s : PS} {wv : Value} {es : Array MapEntry} {c : Nat} (h : AskC w X ab eb ib mb ob E s wv) (hk : Keeps (· = ob) w w') (hb : w'.heap[ob]? = some (.map es c)) : AskPost w X ab eb ib mb ob E wv s w' X wv := by
  obtain ⟨n1, n2, n3, n4, n5⟩ := h.obFar
  refine ⟨fun _ _ => Iff.rfl, hk.mono (fun _ _ e => .inr (.inl e)), .inl rfl, hk.blk h.ablk (fun e => n1 e.symm), h.eng.keep hk (fun e => n2 e.symm) (fun e => n3 e.symm) (fun e => n4 e.symm) (fun b _ hx e => h.xo (by rw [← e]; exact hx)) (fun _ _ => Iff.rfl), ⟨es, c, hb⟩,
    ownsRow_keep h.own hk (fun b hb' e => by subst e; exact n5 hb'.symm), h.xa, h.xo, h.xw, h.mo, fun k hx => Nat.lt_of_lt_of_le (h.xl k hx) hk.size⟩
theorem AskC.wroteAns {w w' : World} {X : Nat → Prop} {ab eb ib mb ob : Nat} {E : Env} {s : PS} {wv : Value} {es es' : Array MapEntry} {c c' : Nat} {q : Int} {k : KeptR} {u : Value} (h : AskC w X ab eb ib mb ob E s wv) (hk : Keeps (· = mb) w w') (hm : w.heap[mb]? = some (.map es c)) (hb : w'.heap[mb]? = some (.map es' c'))
    (hkey : IntKeyed es'.toList) (hl : ∀ q', mlook es'.toList q' = if q' = q then some (.agg #[.int .i64 k.value, u, .int .i64 k.checked, .int .i64 k.changed]) else mlook es.toList q') (hu : IntsX w X u k.asked) (hq : InQ E q) (hal : s.ans.length = E.rules.length) :
    AskPost w X ab eb ib mb ob E wv (s.set q k) w' X wv := by
  obtain ⟨n1, n2, n3, n4, n5⟩ := h.mbFar
  obtain ⟨⟨rv, cc, heb, hrx⟩, hinp, ⟨es0, c0, hmb, hk0, hout, hans⟩, xe, xi, xm⟩ := id h.eng
  obtain ⟨rfl, rfl⟩ : es0 = es ∧ c0 = c := by have := hmb.symm.trans hm; injection this with this; injection this with h1 h2; exact ⟨h1, h2⟩
  obtain ⟨eo, co, hob⟩ := h.oblk
  have hX : ∀ b, b < w.heap.size → X b → ¬ b = mb := fun b _ hx e => xm (by rw [← e]; exact hx)
  have hqn : q.toNat < s.ans.length := by have := hq.1; have := hq.2; omega
  refine ⟨fun _ _ => Iff.rfl, hk.mono (fun _ _ e => .inr (.inr (.inl e))), .inl rfl, hk.blk h.ablk (fun e => n1 e.symm), ⟨⟨rv, cc, hk.blk heb (fun e => n2 e.symm), hrx.keep hk hX (fun _ _ h => h)⟩, hinp.keep hk (fun e => n3 e.symm), ⟨es', c', hb, hkey, fun q' hn => ?_, fun q' h0 h1 => ?_⟩, xe, xi, xm⟩, ⟨eo, co, hk.blk hob (fun e => n4 e.symm)⟩,
    ownsRow_keep h.own hk (fun b hb' e => by subst e; exact n5 hb'.symm), h.xa, h.xo, h.xw, h.mo, fun k hx => Nat.lt_of_lt_of_le (h.xl k hx) hk.size⟩
  · rw [hl, if_neg (fun e => hn (by subst e; exact hq)), hout q' hn]
  · rw [hl]
    by_cases e : q' = q
    · subst e
      rw [if_pos rfl]
      have : (s.set q' k).ans.getD q'.toNat none = some k := get_set_self hqn
      rw [this]
      exact ⟨_, rfl, u, rfl, hu.keep hk hX (fun _ _ h => h)⟩
    · rw [if_neg e]
      have : (s.set q k).ans.getD q'.toNat none = s.ans.getD q'.toNat none := get_set_other hq.1 h0 e
      rw [this]
      have := hans q' h0 h1
      split at this
      · obtain ⟨v, hv, hkx⟩ := this
        exact ⟨v, hv, hkx.keep hk hX (fun _ _ h => h)⟩
      · exact this
theorem OpenX.push {w w' : World} {ob : Nat} {on : List Int} {es es' : Array MapEntry} {c c' : Nat} {q : Int} (hm : w.heap[ob]? = some (.map es c)) (h : OpenX w ob on) (hb : w'.heap[ob]? = some (.map es' c')) (hkey : IntKeyed es'.toList)
    (hl : ∀ q', mlook es'.toList q' = if q' = q then some (.bool true) else mlook es.toList q') : OpenX w' ob (q :: on) := by
  obtain ⟨es0, c0, h0, _, h1⟩ := h
  obtain ⟨rfl, rfl⟩ : es0 = es ∧ c0 = c := by have := h0.symm.trans hm; injection this with this; injection this with h1 h2; exact ⟨h1, h2⟩
  refine ⟨es', c', hb, hkey, fun q' => ?_⟩
  rw [hl, h1]
  by_cases e : q' = q
  · simp [e]
  · simp [e]
theorem OpenX.pop {w w' : World} {ob : Nat} {on : List Int} {es es' : Array MapEntry} {c c' : Nat} {q : Int} (hm : w.heap[ob]? = some (.map es c)) (h : OpenX w ob (q :: on)) (hn : q ∉ on) (hb : w'.heap[ob]? = some (.map es' c')) (hkey : IntKeyed es'.toList)
    (hl : ∀ q', mlook es'.toList q' = if q' = q then none else mlook es.toList q') : OpenX w' ob on := by
  obtain ⟨es0, c0, h0, _, h1⟩ := h
  obtain ⟨rfl, rfl⟩ : es0 = es ∧ c0 = c := by have := h0.symm.trans hm; injection this with this; injection this with h1 h2; exact ⟨h1, h2⟩
  refine ⟨es', c', hb, hkey, fun q' => ?_⟩
  rw [hl, h1]
  by_cases e : q' = q
  · subst e; rw [if_pos rfl, if_neg hn]
  · rw [if_neg e]; simp [e]

set_option maxHeartbeats 1000000 in
/-- An input. -/
theorem ask_input {E : Env} (hE : EnvOk E) {on : List Int} (w : World) (X : Nat → Prop) (ab eb ib mb ob : Nat) (s : PS) (wv : Value) (q : Int) (hc : AskC w X ab eb ib mb ob E s wv) (ho : OpenX w ob on) (hq : InQ E q) (hk : (E.rule q).kind = 1) :
    Calls Tryd.prog 40 #[.pointer (some ⟨ab, 0, none⟩), .int .i64 q] w (Asks w X ab eb ib mb ob E on wv KeptV (s, .ok (E.inp.getD q.toNat 0, E.inpCh.getD q.toNat 0))) := by
  obtain ⟨i85, hi85, hs85⟩ := info85
  obtain ⟨a0, a1, a2, a3⟩ := hc.cells
  obtain ⟨A, cc, cc', b0, b1, b2, b3, hrx⟩ := hc.eng.cells
  obtain ⟨cs, hib, hinp⟩ := id hc.eng.inp
  obtain ⟨i, rfl⟩ := Int.eq_ofNat_of_zero_le hq.1
  have hin : i < E.rules.length := by have := hq.2; omega
  obtain ⟨c0, c1, c2, c3⟩ := hinp i hin
  have d0 := (blk_cell hib (i * 4)).trans c0
  have d1 := (blk_cell hib (i * 4 + 1)).trans c1
  have d2 := (blk_cell hib (i * 4 + 2)).trans c2
  have d3 := (blk_cell hib (i * 4 + 3)).trans c3
  have hkb : ((E.rules.getD (i : Int).toNat default).kind == 1) = true := by
    have : E.rules.getD (i : Int).toNat default = E.rule i := by simp [Env.rule]
    rw [this, hk]; rfl
  have h200 := hE.len
  have hqq := hq.2
  have Hrx := Lib.hid hrx
  have Hc := Lib.hid hc
  have Ho := Lib.hid ho
  have Hi85 := Lib.hid hi85
  have Hs85 := Lib.hid hs85
  have lab := World.block_lt_of_cell? _ _ a0
  have leb := World.block_lt_of_cell? _ _ b0
  have lib := blk_lt hib
  dsimp only at lab leb
  clear hrx hc ho hi85 hs85 hinp c0 c1 c2 c3 hib
  simp only [Int.toNat_natCast] at *
  generalize E.inp.getD i 0 = iv at *
  generalize E.inpCh.getD i 0 = ic at *
  generalize hrl : E.rules.length = rl at *
  have Hrl := Lib.hid hrl
  clear hrl
  go_enter Tryd.func40, Tryd.ntmps40
  go_wp2_with (first
    | ((with_reducible refine at_dst (N := 4) rfl ?_); go_must (refine ev_alloc rfl rfl zero85 rfl ?_; intro g4 w1 hg4 hl4 hb4 hk4); have Hb4 := Lib.hid hb4; clear hb4
       have a0 := hk4.cell a0 id
       have b0 := hk4.cell b0 id
       have b1 := hk4.cell b1 id
       have d0 := hk4.cell d0 id
       have d1 := hk4.cell d1 id
       have d2 := hk4.cell d2 id
       have d3 := hk4.cell d3 id
       (try simp only [Act.put, List.setIfInBounds_toArray, List.set_cons_zero, List.set_cons_succ]))
    | (go_at_call 37; go_must (refine (input_any eb i E.rules X _ w1 b0 (Hrx.out.keep hk4 (fun _ _ _ => id) (fun _ _ h => h)) (by omega) (by rw [Hrl.out]; omega) (by rw [Hrl.out]; omega)).mono ?_; rintro e w' ⟨rfl, rfl⟩; simp only [Int.toNat_natCast, hkb]))
    | ((with_reducible refine at_store (t := 85) rfl ?_); go_must (refine ev_store (cs' := #[.int .i64 iv, .slice none 0 0, .int .i64 0, .int .i64 ic]) rfl rfl rfl rfl rfl rfl Hi85.out Hs85.out rfl Hb4.out (Nat.le_of_ble_eq_true rfl) rfl ?_; intro w2 hb2 hk2); (try simp only [Act.put, List.setIfInBounds_toArray, List.set_cons_zero, List.set_cons_succ])))
  have q0 := (blk_cell hb2 0).trans rfl
  have q1 := (blk_cell hb2 1).trans rfl
  have q2 := (blk_cell hb2 2).trans rfl
  have q3 := (blk_cell hb2 3).trans rfl
  refine bodyPost_ret (v := .agg #[.int .i64 iv, .slice none 0 0, .int .i64 0, .int .i64 ic]) (by rw [results_cell1 rfl]; go_simp) rfl ?_
  have hkk : Keeps Nob w w2 := hk4.own hk2 hg4
  exact ⟨X, wv, ⟨fun _ _ => Iff.rfl, hkk.mono (fun _ _ h => h.elim), .inl rfl, Hc.out.keep hkk (fun _ _ h => h)⟩, fun _ _ => Ho.out.keep hkk id, _, ⟨_, _, rfl, rfl⟩, rfl⟩

theorem WorkPost.err {w : World} {X : Nat → Prop} {ab eb ib mb ob : Nat} {E : Env} {on : List Int} {wv : Value} {q : Int} {was : Option KeptR} {s1 : PS} {c : Int} {e : Ending} {w' : World} (h : WorkPost w X ab eb ib mb ob E on wv q was (s1, .error c) e w') :
    ∃ X' wv', AskPost w X ab eb ib mb ob E wv s1 w' X' wv' ∧ e = .panicked [{ v := .iface 90 (.int .i64 c), recovered := false }] := h
theorem WorkPost.stop {w : World} {X : Nat → Prop} {ab eb ib mb ob : Nat} {E : Env} {on : List Int} {wv : Value} {q : Int} {was : Option KeptR} {s1 : PS} {v : Int} {asked : List Int} {e : Ending} {w' : World} (hm : E.most ≤ s1.done.length) (h : WorkPost w X ab eb ib mb ob E on wv q was (s1, .ok (v, asked)) e w') :
    ∃ X' wv', AskPost w X ab eb ib mb ob E wv s1 w' X' wv' ∧ e = .panicked [{ v := .iface 90 (.int .i64 13), recovered := false }] := by
  unfold WorkPost at h
  dsimp only at h
  rwa [if_pos hm] at h
theorem WorkPost.fine {w : World} {X : Nat → Prop} {ab eb ib mb ob : Nat} {E : Env} {on : List Int} {wv : Value} {q : Int} {was : Option KeptR} {s1 : PS} {v : Int} {asked : List Int} {e : Ending} {w' : World} (hm : ¬ E.most ≤ s1.done.length) (h : WorkPost w X ab eb ib mb ob E on wv q was (s1, .ok (v, asked)) e w') :
    ∃ X' wv' u, AskPost w X ab eb ib mb ob E wv { s1 with done := s1.done ++ [q] } w' X' wv' ∧ OpenX w' ob on ∧ IntsX w' X' u asked ∧ e = .returned (.agg #[.int .i64 v, u, .int .i64 E.rev, .int .i64 (chOf E.rev was v)]) := by
  unfold WorkPost at h
  dsimp only at h
  rwa [if_neg hm] at h
set_option maxHeartbeats 2000000 in
/-- A question that is no input. -/
theorem ask_rest {E : Env} (hE : EnvOk E) {f : Nat} {on : List Int} (w : World) (X : Nat → Prop) (ab eb ib mb ob : Nat) (s : PS) (wv : Value) (q : Int) (IH : AskOK E (q :: on) (askF E f (q :: on))) (hc : AskC w X ab eb ib mb ob E s wv) (ho : OpenX w ob on) (hi : PInv E on s) (hq : InQ E q) (hk : (E.rule q).kind ≠ 1) :
    Calls Tryd.prog 40 #[.pointer (some ⟨ab, 0, none⟩), .int .i64 q] w (Asks w X ab eb ib mb ob E on wv KeptV (askF E (f + 1) on s q)) := by
  obtain ⟨RR, hRR⟩ : ∃ r, askF E (f + 1) on s q = r := ⟨_, rfl⟩
  rw [hRR]
  unfold askF at hRR
  rw [if_neg hk] at hRR
  have hG : QM.Good E (q :: on) (askF E f (q :: on)) := askF_good hE f _
  generalize askF E f (q :: on) = ask at *
  obtain ⟨i85, hi85, hs85⟩ := info85
  obtain ⟨i3, hi3, hs3⟩ := infoS3
  obtain ⟨a0, a1, a2, a3⟩ := hc.cells
  obtain ⟨A, cc, cc', b0, b1, b2, b3, hrx⟩ := hc.eng.cells
  obtain ⟨es, cl, hmb, hkey, hout, hans⟩ := id hc.eng.ans
  obtain ⟨eo, co, hob, hokey, hoq⟩ := id ho
  obtain ⟨u, hv, hints, hsm⟩ := AnsX.get hq.1 hq.2 hans
  obtain ⟨i, rfl⟩ := Int.eq_ofNat_of_zero_le hq.1
  have hin : i < E.rules.length := by have := hq.2; omega
  have hkb : ((E.rules.getD (i : Int).toNat default).kind == 1) = false := by
    have : E.rules.getD (i : Int).toNat default = E.rule i := by simp [Env.rule]
    rw [this]; simpa using hk
  obtain ⟨was, hwas⟩ : ∃ x, s.get i = x := ⟨_, rfl⟩
  have hwas' : s.ans.getD (i : Int).toNat none = was := hwas
  rw [hwas'] at hv hints hsm
  rw [hwas] at hRR
  obtain ⟨k, hkd⟩ : ∃ k, was.getD k0 = k := ⟨_, rfl⟩
  rw [hkd] at hv hints
  obtain ⟨uA, uc, rfl, _, _⟩ := id hints
  have h200 := hE.len
  have hqq := hq.2
  have lab := World.block_lt_of_cell? _ _ a0
  have leb := World.block_lt_of_cell? _ _ b0
  have lmb := blk_lt hmb
  have lob := blk_lt hob
  dsimp only at lab leb
  have Hrx := Lib.hid hrx
  have Hc := Lib.hid hc
  have Ho := Lib.hid ho
  have Hi := Lib.hid hi
  have Hi85 := Lib.hid hi85
  have Hs85 := Lib.hid hs85
  have Hi3 := Lib.hid hi3
  have Hs3 := Lib.hid hs3
  have Hmb := Lib.hid hmb
  have Hkey := Lib.hid hkey
  have Hob := Lib.hid hob
  have Hokey := Lib.hid hokey
  have Hoq := Lib.hid hoq
  have Hv := Lib.hid hv
  have Hints := Lib.hid hints
  have Hwas := Lib.hid hwas
  have Hkd := Lib.hid hkd
  have HRR := Lib.hid hRR
  have Hk := Lib.hid hk
  have HG := Lib.hid hG
  have HIH := Lib.hid IH
  have Hq := Lib.hid hq
  clear hrx hc ho hi hi85 hs85 hi3 hs3 hmb hkey hout hans hob hokey hoq hv hints hwas hwas' hkd hRR hk hG IH hq
  simp only [Int.toNat_natCast] at *
  generalize hrl : E.rules.length = rl at *
  have Hrl := Lib.hid hrl
  generalize hul : k.asked.length = ul at *
  have Hul := Lib.hid hul
  obtain ⟨sm, hsm'⟩ : ∃ b, was.isSome = b := ⟨_, rfl⟩
  rw [hsm'] at hsm
  have Hsm := Lib.hid hsm
  have Hsm' := Lib.hid hsm'
  clear hrl hul hsm hsm'
  go_enter Tryd.func40, Tryd.ntmps40
  go_wp2_with (first
    | ((with_reducible refine at_dst (N := 4) rfl ?_); go_must (refine ev_alloc rfl rfl zero85 rfl ?_; intro g4 w1 hg4 hl4 hb4 hk4); have Hb4 := Lib.hid hb4; clear hb4
       have a0 := hk4.cell a0 id
       have a1 := hk4.cell a1 id
       have b0 := hk4.cell b0 id
       have b2 := hk4.cell b2 id
       have b3 := hk4.cell b3 id
       (try simp only [Act.put, List.setIfInBounds_toArray, List.set_cons_zero, List.set_cons_succ]))
    | (go_at_call 37; go_must (refine (input_any eb i E.rules X _ w1 b0 (Hrx.out.keep hk4 (fun _ _ _ => id) (fun _ _ h => h)) (by omega) (by rw [Hrl.out]; omega) (by rw [Hrl.out]; omega)).mono ?_; rintro e w' ⟨rfl, rfl⟩; simp only [Int.toNat_natCast, hkb]))
    | ((with_reducible refine at_dst (N := 32) rfl ?_); go_must (refine ev_lookup_ok rfl rfl Tryd.underlying61 Tryd.underlying3 zero85 rfl rfl (hk4.blk Hmb.out id) Hkey.out ?_; rw [Hv.out, Hsm.out]); (try simp only [Act.put, List.setIfInBounds_toArray, List.set_cons_zero, List.set_cons_succ]))
    | ((with_reducible refine at_dst (N := 5) rfl ?_); go_must (refine ev_alloc rfl rfl zero85 rfl ?_; intro g5 w2 hg5 hl5 hb5 hk5); have Hb5 := Lib.hid hb5; clear hb5
       have a0 := hk5.cell a0 id
       have a1 := hk5.cell a1 id
       have b0 := hk5.cell b0 id
       have b2 := hk5.cell b2 id
       have b3 := hk5.cell b3 id
       (try simp only [Act.put, List.setIfInBounds_toArray, List.set_cons_zero, List.set_cons_succ]))
    | ((with_reducible refine at_store (t := 85) rfl ?_); go_must (refine ev_store (cs' := #[.int .i64 k.value, .slice uA ul uc, .int .i64 k.checked, .int .i64 k.changed]) rfl rfl rfl rfl rfl rfl Hi85.out Hs85.out rfl Hb5.out (Nat.le_of_ble_eq_true rfl) rfl ?_; intro w3 hb3 hk3); have Hb3 := Lib.hid hb3; clear hb3; (try simp only [Act.put, List.setIfInBounds_toArray, List.set_cons_zero, List.set_cons_succ])))
  have hk02 : Keeps Nob w w2 := hk4.trans hk5 (fun _ _ h => h)
  have hk03 : Keeps Nob w w3 := hk02.own hk3 (by have := hk4.size; omega)
  have z4 := hk4.size
  have z5 := hk5.size
  have a0 := hk3.cell a0 (by show ab ≠ g5; omega)
  have a1 := hk3.cell a1 (by show ab ≠ g5; omega)
  have b0 := hk3.cell b0 (by show eb ≠ g5; omega)
  have b2 := hk3.cell b2 (by show eb ≠ g5; omega)
  have b3 := hk3.cell b3 (by show eb ≠ g5; omega)
  have f0 := (blk_cell Hb3.out 0).trans rfl
  have f1 := (blk_cell Hb3.out 1).trans rfl
  have f2 := (blk_cell Hb3.out 2).trans rfl
  have f3 := (blk_cell Hb3.out 3).trans rfl
  have hb43 := hk3.blk (hk5.blk Hb4.out id) (by show g4 ≠ g5; omega)
  have Hb43 := Lib.hid hb43
  have HK := Lib.hid hk03
  have hc3 := Hc.out.keep hk03 (fun _ _ h => h)
  have Hc3 := Lib.hid hc3
  have ho3 := Ho.out.keep hk03 id
  have Ho3 := Lib.hid ho3
  have hob3 := hk03.blk Hob.out id
  have Hob3 := Lib.hid hob3
  have N4 := Lib.hid (Hc.out.newF (g := g4) hg4)
  have N5 := Lib.hid (Hc.out.newF (g := g5) (by omega))
  have g5o : g5 ≠ ob := by omega
  have g4o : g4 ≠ ob := by omega
  clear hb43 hk03 hk02 hk3 hk4 hk5 hc3 ho3 hob3 Hb4 Hb5
  cases sm with
  | true =>
    have hwk : was = some k := by
      have h1 := Hsm'.out
      have h2 := Hkd.out
      cases hw : was with
      | none => rw [hw] at h1; cases h1
      | some x => rw [hw] at h2; exact congrArg some h2
    by_cases hch : k.checked = E.rev
    · have hcb : (k.checked == E.rev) = true := by simp [hch]
      have hon : (i : Int) ∉ on := fun h => Hi.out.onk i h k (Hwas.out.trans hwk) hch
      have hR := HRR.out
      rw [if_neg hon, hwk] at hR
      simp only [if_pos hch] at hR
      have HR := Lib.hid hR
      have Hwk := Lib.hid hwk
      clear hR hwk HRR
      refine wp_region_perm [(0, true), (1, true), (2, true), (3, true), (4, true), (5, true), (6, true), (7, true), (8, true), (9, true), (10, true), (11, true), (12, true)] (fun w' => w'.cell? ⟨g5, 2, none⟩ = some (.int .i64 k.checked) ∧ w'.cell? ⟨ab, 0, none⟩ = some (.pointer (some ⟨eb, 0, none⟩)) ∧ w'.cell? ⟨eb, 3, none⟩ = some (.int .i64 E.rev)) rfl (by kernel_rfl) (by kernel_rfl) (by decide) (fun c a d v w h => by cases d <;> exact h) ⟨f2, a0, b3⟩ ?_
      refine perm_q (v := ?v1_0) (some 35) rfl rfl rfl ?q1_0 ?h1_0; (case q1_0 => (intro w' hS; obtain ⟨s1, s2, s3⟩ := hS; first | (go_simp; done) | (go_simp; rfl))); (try simp only [Act.put, List.setIfInBounds_toArray, List.set_cons_zero, List.set_cons_succ])
      refine perm_q (v := ?v1_1) (some 36) rfl rfl rfl ?q1_1 ?h1_1; (case q1_1 => (intro w' hS; obtain ⟨s1, s2, s3⟩ := hS; first | (go_simp; done) | (go_simp; rfl))); (try simp only [Act.put, List.setIfInBounds_toArray, List.set_cons_zero, List.set_cons_succ])
      refine perm_q (v := ?v1_2) (some 37) rfl rfl rfl ?q1_2 ?h1_2; (case q1_2 => (intro w' hS; obtain ⟨s1, s2, s3⟩ := hS; first | (go_simp; done) | (go_simp; rfl))); (try simp only [Act.put, List.setIfInBounds_toArray, List.set_cons_zero, List.set_cons_succ])
      refine perm_q (v := ?v1_3) (some 38) rfl rfl rfl ?q1_3 ?h1_3; (case q1_3 => (intro w' hS; obtain ⟨s1, s2, s3⟩ := hS; first | (go_simp; done) | (go_simp; rfl))); (try simp only [Act.put, List.setIfInBounds_toArray, List.set_cons_zero, List.set_cons_succ])
      refine perm_q (v := ?v1_4) (some 39) rfl rfl rfl ?q1_4 ?h1_4; (case q1_4 => (intro w' hS; obtain ⟨s1, s2, s3⟩ := hS; first | (go_simp; done) | (go_simp; rfl))); (try simp only [Act.put, List.setIfInBounds_toArray, List.set_cons_zero, List.set_cons_succ])
      refine perm_q (v := ?v1_5) (some 40) rfl rfl rfl ?q1_5 ?h1_5; (case q1_5 => (intro w' hS; obtain ⟨s1, s2, s3⟩ := hS; first | (go_simp; done) | (go_simp; rfl))); (try simp only [Act.put, List.setIfInBounds_toArray, List.set_cons_zero, List.set_cons_succ])
      refine perm_q (v := ?v1_6) (some 41) rfl rfl rfl ?q1_6 ?h1_6; (case q1_6 => (intro w' hS; obtain ⟨s1, s2, s3⟩ := hS; first | (go_simp; done) | (go_simp; rfl))); (try simp only [Act.put, List.setIfInBounds_toArray, List.set_cons_zero, List.set_cons_succ])
      refine perm_q (v := ?v1_7) (some 42) rfl rfl rfl ?q1_7 ?h1_7; (case q1_7 => (intro w' hS; obtain ⟨s1, s2, s3⟩ := hS; first | (go_simp; done) | (go_simp; rfl))); (try simp only [Act.put, List.setIfInBounds_toArray, List.set_cons_zero, List.set_cons_succ])
      refine perm_q (v := ?v1_8) (some 43) rfl rfl rfl ?q1_8 ?h1_8; (case q1_8 => (intro w' hS; obtain ⟨s1, s2, s3⟩ := hS; first | (go_simp; done) | (go_simp; rfl))); (try simp only [Act.put, List.setIfInBounds_toArray, List.set_cons_zero, List.set_cons_succ])
      refine perm_q (v := ?v1_9) (some 44) rfl rfl rfl ?q1_9 ?h1_9; (case q1_9 => (intro w' hS; obtain ⟨s1, s2, s3⟩ := hS; first | (go_simp; done) | (go_simp; rfl))); (try simp only [Act.put, List.setIfInBounds_toArray, List.set_cons_zero, List.set_cons_succ])
      refine perm_q (v := ?v1_10) (some 45) rfl rfl rfl ?q1_10 ?h1_10; (case q1_10 => (intro w' hS; obtain ⟨s1, s2, s3⟩ := hS; first | (go_simp; done) | (go_simp; rfl))); (try simp only [Act.put, List.setIfInBounds_toArray, List.set_cons_zero, List.set_cons_succ])
      refine perm_q (v := ?v1_11) (some 46) rfl rfl rfl ?q1_11 ?h1_11; (case q1_11 => (intro w' hS; obtain ⟨s1, s2, s3⟩ := hS; first | (go_simp; done) | (go_simp; rfl))); (try simp only [Act.put, List.setIfInBounds_toArray, List.set_cons_zero, List.set_cons_succ])
      refine perm_q (v := ?v1_12) (some 47) rfl rfl rfl ?q1_12 ?h1_12; (case q1_12 => (intro w' hS; obtain ⟨s1, s2, s3⟩ := hS; first | (go_simp; done) | (go_simp; rfl))); (try simp only [Act.put, List.setIfInBounds_toArray, List.set_cons_zero, List.set_cons_succ])
      refine perm_nil ?_
      go_wp2_with ((with_reducible refine at_store (t := 85) rfl ?_); go_must (refine ev_store (W := w3.drew) (cs' := #[.int .i64 k.value, .slice uA ul uc, .int .i64 E.rev, .int .i64 k.changed]) rfl rfl rfl rfl rfl rfl Hi85.out Hs85.out rfl Hb43.out (Nat.le_of_ble_eq_true rfl) rfl ?_; intro w4 hb4 hk4); (try simp only [Act.put, List.setIfInBounds_toArray, List.set_cons_zero, List.set_cons_succ]))
      have q0 := (blk_cell hb4 0).trans rfl
      have q1 := (blk_cell hb4 1).trans rfl
      have q2 := (blk_cell hb4 2).trans rfl
      have q3 := (blk_cell hb4 3).trans rfl
      refine bodyPost_ret (v := .agg #[.int .i64 k.value, .slice uA ul uc, .int .i64 E.rev, .int .i64 k.changed]) (by rw [results_cell1 rfl]; go_simp) rfl ?_
      rw [← HR.out]
      have hkk : Keeps Nob w w4 := HK.out.drew.own hk4 hg4
      exact ⟨X, wv, ⟨fun _ _ => Iff.rfl, hkk.mono (fun _ _ h => h.elim), .inl rfl, Hc.out.keep hkk (fun _ _ h => h)⟩, fun _ _ => Ho.out.keep hkk id, _, ⟨_, _, rfl, rfl⟩, rfl⟩
    · have hcb : (k.checked == E.rev) = false := by simpa using hch
      have Hwk := Lib.hid hwk
      have Hch := Lib.hid hch
      clear hwk hch
      refine wp_region_perm [(0, true), (1, true), (2, true), (3, true), (4, true), (5, true), (6, true), (7, true), (8, true), (9, true), (10, true), (11, true), (12, true)] (fun w' => w'.cell? ⟨g5, 2, none⟩ = some (.int .i64 k.checked) ∧ w'.cell? ⟨ab, 0, none⟩ = some (.pointer (some ⟨eb, 0, none⟩)) ∧ w'.cell? ⟨eb, 3, none⟩ = some (.int .i64 E.rev)) rfl (by kernel_rfl) (by kernel_rfl) (by decide) (fun c a d v w h => by cases d <;> exact h) ⟨f2, a0, b3⟩ ?_
      refine perm_q (v := ?v2_0) (some 35) rfl rfl rfl ?q2_0 ?h2_0; (case q2_0 => (intro w' hS; obtain ⟨s1, s2, s3⟩ := hS; first | (go_simp; done) | (go_simp; rfl))); (try simp only [Act.put, List.setIfInBounds_toArray, List.set_cons_zero, List.set_cons_succ])
      refine perm_q (v := ?v2_1) (some 36) rfl rfl rfl ?q2_1 ?h2_1; (case q2_1 => (intro w' hS; obtain ⟨s1, s2, s3⟩ := hS; first | (go_simp; done) | (go_simp; rfl))); (try simp only [Act.put, List.setIfInBounds_toArray, List.set_cons_zero, List.set_cons_succ])
      refine perm_q (v := ?v2_2) (some 37) rfl rfl rfl ?q2_2 ?h2_2; (case q2_2 => (intro w' hS; obtain ⟨s1, s2, s3⟩ := hS; first | (go_simp; done) | (go_simp; rfl))); (try simp only [Act.put, List.setIfInBounds_toArray, List.set_cons_zero, List.set_cons_succ])
      refine perm_q (v := ?v2_3) (some 38) rfl rfl rfl ?q2_3 ?h2_3; (case q2_3 => (intro w' hS; obtain ⟨s1, s2, s3⟩ := hS; first | (go_simp; done) | (go_simp; rfl))); (try simp only [Act.put, List.setIfInBounds_toArray, List.set_cons_zero, List.set_cons_succ])
      refine perm_q (v := ?v2_4) (some 39) rfl rfl rfl ?q2_4 ?h2_4; (case q2_4 => (intro w' hS; obtain ⟨s1, s2, s3⟩ := hS; first | (go_simp; done) | (go_simp; rfl))); (try simp only [Act.put, List.setIfInBounds_toArray, List.set_cons_zero, List.set_cons_succ])
      refine perm_q (v := ?v2_5) (some 40) rfl rfl rfl ?q2_5 ?h2_5; (case q2_5 => (intro w' hS; obtain ⟨s1, s2, s3⟩ := hS; first | (go_simp; done) | (go_simp; rfl))); (try simp only [Act.put, List.setIfInBounds_toArray, List.set_cons_zero, List.set_cons_succ])
      refine perm_q (v := ?v2_6) (some 41) rfl rfl rfl ?q2_6 ?h2_6; (case q2_6 => (intro w' hS; obtain ⟨s1, s2, s3⟩ := hS; first | (go_simp; done) | (go_simp; rfl))); (try simp only [Act.put, List.setIfInBounds_toArray, List.set_cons_zero, List.set_cons_succ])
      refine perm_q (v := ?v2_7) (some 42) rfl rfl rfl ?q2_7 ?h2_7; (case q2_7 => (intro w' hS; obtain ⟨s1, s2, s3⟩ := hS; first | (go_simp; done) | (go_simp; rfl))); (try simp only [Act.put, List.setIfInBounds_toArray, List.set_cons_zero, List.set_cons_succ])
      refine perm_q (v := ?v2_8) (some 43) rfl rfl rfl ?q2_8 ?h2_8; (case q2_8 => (intro w' hS; obtain ⟨s1, s2, s3⟩ := hS; first | (go_simp; done) | (go_simp; rfl))); (try simp only [Act.put, List.setIfInBounds_toArray, List.set_cons_zero, List.set_cons_succ])
      refine perm_q (v := ?v2_9) (some 44) rfl rfl rfl ?q2_9 ?h2_9; (case q2_9 => (intro w' hS; obtain ⟨s1, s2, s3⟩ := hS; first | (go_simp; done) | (go_simp; rfl))); (try simp only [Act.put, List.setIfInBounds_toArray, List.set_cons_zero, List.set_cons_succ])
      refine perm_q (v := ?v2_10) (some 45) rfl rfl rfl ?q2_10 ?h2_10; (case q2_10 => (intro w' hS; obtain ⟨s1, s2, s3⟩ := hS; first | (go_simp; done) | (go_simp; rfl))); (try simp only [Act.put, List.setIfInBounds_toArray, List.set_cons_zero, List.set_cons_succ])
      refine perm_q (v := ?v2_11) (some 46) rfl rfl rfl ?q2_11 ?h2_11; (case q2_11 => (intro w' hS; obtain ⟨s1, s2, s3⟩ := hS; first | (go_simp; done) | (go_simp; rfl))); (try simp only [Act.put, List.setIfInBounds_toArray, List.set_cons_zero, List.set_cons_succ])
      refine perm_q (v := ?v2_12) (some 47) rfl rfl rfl ?q2_12 ?h2_12; (case q2_12 => (intro w' hS; obtain ⟨s1, s2, s3⟩ := hS; first | (go_simp; done) | (go_simp; rfl))); (try simp only [Act.put, List.setIfInBounds_toArray, List.set_cons_zero, List.set_cons_succ])
      refine perm_nil ?_
      by_cases hon : (i : Int) ∈ on
      · have hR := HRR.out
        rw [if_pos hon] at hR
        have HR := Lib.hid hR
        have hlk := Hoq.out i
        rw [if_pos hon] at hlk
        have Hlk := Lib.hid hlk
        clear hR HRR hlk
        go_wp2_with ((with_reducible refine at_dst (N := 54) rfl ?_); go_must (refine ev_lookup_v (W := w3.drew) (q := (i : Int)) rfl rfl Tryd.underlying87 Tryd.underlying3 zero4 rfl rfl Hob3.out Hokey.out ?_; rw [Hlk.out, Option.getD_some]); (try simp only [Act.put, List.setIfInBounds_toArray, List.set_cons_zero, List.set_cons_succ]))
        refine ⟨rfl, ?_⟩
        rw [← HR.out]
        exact ⟨X, wv, ⟨fun _ _ => Iff.rfl, HK.out.drew.mono (fun _ _ h => h.elim), .inl rfl, Hc.out.keep HK.out.drew (fun _ _ h => h)⟩, fun _ h => (by cases h), rfl⟩
      · have hR := HRR.out
        rw [if_neg hon, Hwk.out] at hR
        simp only [if_neg Hch.out] at hR
        have HR0 := Lib.hid hR
        have hlk := Hoq.out i
        rw [if_neg hon] at hlk
        have Hlk := Lib.hid hlk
        clear hR HRR hlk
        go_wp2_with (first
          | ((with_reducible refine at_dst (N := 54) rfl ?_); go_must (refine ev_lookup_v (W := w3.drew) (q := (i : Int)) rfl rfl Tryd.underlying87 Tryd.underlying3 zero4 rfl rfl Hob3.out Hokey.out ?_; rw [Hlk.out, Option.getD_none]); (try simp only [Act.put, List.setIfInBounds_toArray, List.set_cons_zero, List.set_cons_succ]))
          | (refine at_update rfl ?_; go_must (refine ev_mapUpdate (W := w3.drew) (q := (i : Int)) (v := .bool true) rfl rfl rfl Tryd.underlying87 Tryd.underlying3 rfl rfl rfl Hob3.out Hokey.out ?_; intro es5 c5 w5 hb5 hkey5 hl5 hk5); have Hl5 := Lib.hid hl5; have Hb5 := Lib.hid hb5; clear hl5 hb5
             have f0 := hk5.cell (w := w3.drew) f0 g5o
             have f1 := hk5.cell (w := w3.drew) f1 g5o
             have f2 := hk5.cell (w := w3.drew) f2 g5o
             have f3 := hk5.cell (w := w3.drew) f3 g5o
             (try simp only [Act.put, List.setIfInBounds_toArray, List.set_cons_zero, List.set_cons_succ])))
        have hk5' : Keeps (· = ob) w3 w5 := (Keeps.refl (· = ob) w3).drew.trans hk5 (fun _ _ h => h)
        have hp5 := Hc3.out.wroteOpen hk5' Hb5.out
        have hpW0 : AskPost w X ab eb ib mb ob E wv s w5 X wv := AskPost.after (M := Nob) HK.out hp5 rfl
        have HP5 := Lib.hid hpW0
        have Ho5 := Lib.hid (OpenX.push (q := (i : Int)) Hob3.out Ho3.out Hb5.out hkey5 Hl5.out)
        have Hi5 := Lib.hid (Hi.out.open_ Hq.out hon (fun k' hk' => by
          have := Hwas.out.symm.trans hk'
          rw [Hwk.out] at this
          injection this with this
          subst this
          exact Hch.out))
        have hints5 := (Hints.out.keep HK.out (fun _ _ _ => id) (fun _ _ h => h)).keep (X' := X) hk5' (fun b _ hx e => Hc.out.xo (by rw [← e]; exact hx)) (fun _ _ h => h)
        have Hints5 := Lib.hid hints5
        have Hb55 := Lib.hid (hk5'.blk Hb3.out g5o)
        have Hb45 := Lib.hid (hk5'.blk Hb43.out g4o)
        have hkok := Hi.out.kok _ _ Hq.out (Hwas.out.trans Hwk.out)
        have hstale := stale_any HIH.out HG.out w5 X ab eb ib mb ob s wv k (.slice uA ul uc) HP5.out.core Ho5.out Hi5.out hkok Hints5.out
        have hgs := staleF_good HG.out k.checked k.asked s Hi5.out hkok.asked
        have hR0 := HR0.out
        rcases hst : staleF ask k.checked s k.asked with ⟨sW, r1⟩
        rw [hst] at hstale hgs hR0
        clear hst hk5 hk5' hp5 hpW0 hints5 hkey5 HR0
        have Hstale := Lib.hid hstale
        have Hgs := Lib.hid hgs
        have HR0 := Lib.hid hR0
        clear hstale hgs hR0 hkok
        cases r1 with
        | error c =>
          refine Hstale.out.mono ?_
          rintro e wz ⟨Xz, wvz, hpz, _, he⟩
          simp only [EndAs] at he
          subst he
          refine ⟨rfl, ?_⟩
          have hr := HR0.out
          simp only at hr
          rw [← hr]
          exact ⟨Xz, wvz, HP5.out.trans hpz, fun _ h => (by cases h), rfl⟩
        | ok bb =>
          refine Hstale.out.mono ?_
          rintro e wW ⟨X1, wv1, hp1, ho1, he⟩
          simp only [EndAs] at he
          obtain ⟨_, rfl, rfl⟩ := he
          have HpW := Lib.hid (HP5.out.trans hp1)
          have HoW := Lib.hid (ho1 _ rfl)
          have HiW := Lib.hid Hgs.out.inv
          have Hb5W := Lib.hid (hp1.blk Hb55.out (fun h => N5.out (.inl h)))
          have Hb4W := Lib.hid (hp1.blk Hb45.out (fun h => N4.out (.inl h)))
          have N5W := Lib.hid (hp1.notF (blk_lt Hb55.out) N5.out)
          have N4W := Lib.hid (hp1.notF (blk_lt Hb45.out) N4.out)
          have HinW := Lib.hid (hp1.ask Hints5.out HP5.out.core.notX)
          obtain ⟨a0, a1, a2, a3⟩ := HpW.out.core.cells
          obtain ⟨_, _, _, b0, b1, b2, b3, _⟩ := HpW.out.core.eng.cells
          have f0 := (blk_cell Hb5W.out 0).trans rfl
          have f1 := (blk_cell Hb5W.out 1).trans rfl
          have f2 := (blk_cell Hb5W.out 2).trans rfl
          have f3 := (blk_cell Hb5W.out 3).trans rfl
          have HalW := Lib.hid Hgs.out.inv.alen
          clear hp1 ho1
          cases bb with
          | true =>
            have HRW : Hid (workF E ask sW (i : Int) was = RR) := Lib.hid (by have h := HR0.out; simp only at h; rw [Hwk.out]; exact h)
            have hwork := work_any hE HIH.out HG.out wW X1 ab eb ib mb ob sW wv1 i was uA ul uc HpW.out.core HoW.out HiW.out Hq.out Hk.out
            rw [Hkd.out, Hsm'.out] at hwork
            have hgood := evalR_good hE HG.out (hE.rok _ (rule_mem Hq.out)) HiW.out
            have hRW := HRW.out
            unfold workF at hRW
            rcases hev : evalR ask sW (E.rule i) with ⟨s1, r1⟩
            rw [hev] at hwork hgood hRW
            cases r1 with
            | error c =>
              have hwork := hwork.mono (fun _ _ h => WorkPost.err h)
              (try simp only at hRW)
              have Hwork := Lib.hid hwork
              have HR := Lib.hid hRW
              clear hwork hRW hgood hev
              go_wp2_with (go_at_call 57; go_must (refine Hwork.out.mono ?_; rintro e wz ⟨Xz, wvz, hpz, rfl⟩))
              refine ⟨rfl, ?_⟩
              rw [← HR.out]
              exact ⟨Xz, wvz, HpW.out.trans hpz, fun _ h => (by cases h), rfl⟩
            | ok y =>
              obtain ⟨yv, yasked⟩ := y
              (try simp only at hRW)
              by_cases hm : E.most ≤ s1.done.length
              · rw [if_pos hm] at hRW
                have hwork := hwork.mono (fun _ _ h => WorkPost.stop hm h)
                have Hwork := Lib.hid hwork
                have HR := Lib.hid hRW
                clear hwork hRW hgood hev hm
                go_wp2_with (go_at_call 57; go_must (refine Hwork.out.mono ?_; rintro e wz ⟨Xz, wvz, hpz, rfl⟩))
                refine ⟨rfl, ?_⟩
                rw [← HR.out]
                exact ⟨Xz, wvz, HpW.out.trans hpz, fun _ h => (by cases h), rfl⟩
              · rw [if_neg hm] at hRW
                have hwork := hwork.mono (fun _ _ h => WorkPost.fine hm h)
                have Halz : Hid (({ s1 with done := s1.done ++ [(i : Int)] } : PS).ans.length = E.rules.length) := Lib.hid hgood.1.inv.alen
                generalize hsz : ({ s1 with done := s1.done ++ [(i : Int)] } : PS) = sz at *
                obtain ⟨ych, hych⟩ : ∃ x, chOf E.rev was yv = x := ⟨_, rfl⟩
                rw [hych] at hwork hRW
                have HR := Lib.hid hRW
                have Hwork := Lib.hid hwork
                clear hwork hRW hgood hev hm hsz hych
                go_wp2_with (first
                  | (go_at_call 57; go_must (refine Hwork.out.mono ?_; rintro e wz ⟨Xz, wvz, uz, hpz, hoz, hinz, rfl⟩; obtain ⟨yA, yc, rfl, _, _⟩ := id hinz); have Hpz := Lib.hid hpz; have Hoz := Lib.hid hoz; have Hinz := Lib.hid hinz; clear hpz hoz hinz; (try simp only [Act.put, List.setIfInBounds_toArray, List.set_cons_zero, List.set_cons_succ]))
                  | ((with_reducible refine at_store (t := 85) rfl ?_); go_must (refine ev_store (cs' := #[.int .i64 yv, .slice yA yasked.length yc, .int .i64 E.rev, .int .i64 ych]) rfl rfl rfl rfl rfl rfl Hi85.out Hs85.out rfl (Hpz.out.blk Hb5W.out (fun h => N5W.out (.inl h))) (Nat.le_of_ble_eq_true rfl) rfl ?_; intro wy hby hky); have Hby := Lib.hid hby; clear hby; (try simp only [Act.put, List.setIfInBounds_toArray, List.set_cons_zero, List.set_cons_succ])))
                have N5y := Lib.hid (Hpz.out.notF (blk_lt Hb5W.out) N5W.out)
                have N4y := Lib.hid (Hpz.out.notF (blk_lt Hb4W.out) N4W.out)
                have Hpy := Lib.hid ((HpW.out.trans Hpz.out).then hky (fun i _ e => by omega) (Hpz.out.core.keepF hky (fun k _ e => by subst e; exact N5y.out)))
                have Hoy := Lib.hid (Hoz.out.keep hky (fun e => N5y.out (.inl (.inr (.inl e.symm)))))
                have Hiny := Lib.hid (Hinz.out.keep (X' := Xz) hky (fun b _ hx e => N5y.out (.inr (.inr (.inr (by subst e; exact hx))))) (fun _ _ h => h))
                have Hb4y := Lib.hid (hky.blk (Hpz.out.blk Hb4W.out (fun h => N4W.out (.inl h))) (by show g4 ≠ g5; omega))
                have Hb5y := Hby
                clear hky Hinz Hoz Hpz
                obtain ⟨a0, a1, a2, a3⟩ := Hpy.out.core.cells
                obtain ⟨_, _, _, b0, b1, b2, b3, _⟩ := Hpy.out.core.eng.cells
                obtain ⟨ey, cy, hmby, hkeyy, _, _⟩ := id Hpy.out.core.eng.ans
                obtain ⟨oy, ocy, hoby, hokeyy, _⟩ := id Hoy.out
                obtain ⟨m1, m2, m3, m4, m5⟩ := Hpy.out.core.mbFar
                obtain ⟨o1, o2, o3, o4, o5⟩ := Hpy.out.core.obFar
                have f0 := (blk_cell Hb5y.out 0).trans rfl
                have f1 := (blk_cell Hb5y.out 1).trans rfl
                have f2 := (blk_cell Hb5y.out 2).trans rfl
                have f3 := (blk_cell Hb5y.out 3).trans rfl
                have g5m : g5 ≠ mb := fun e => N5y.out (.inl (.inr (.inr (.inl e))))
                have g5o : g5 ≠ ob := fun e => N5y.out (.inl (.inr (.inl e)))
                have g4m : g4 ≠ mb := fun e => N4y.out (.inl (.inr (.inr (.inl e))))
                have g4o : g4 ≠ ob := fun e => N4y.out (.inl (.inr (.inl e)))
                have Hmby := Lib.hid hmby
                have Hkeyy := Lib.hid hkeyy
                have Hoby := Lib.hid hoby
                have Hokeyy := Lib.hid hokeyy
                clear hmby hkeyy hoby hokeyy a2 a3 b0 b1 b3
                refine wp_region_perm [(0, true), (1, true), (2, true), (3, true), (4, true), (5, true), (6, true), (7, true), (8, true), (9, false)] (fun w' => w'.cell? ⟨ab, 0, none⟩ = some (.pointer (some ⟨eb, 0, none⟩)) ∧ w'.cell? ⟨eb, 2, none⟩ = some (.map (some mb)) ∧ w'.cell? ⟨g5, 0, none⟩ = some (.int .i64 yv) ∧ w'.cell? ⟨g5, 1, none⟩ = some (.slice yA yasked.length yc) ∧ w'.cell? ⟨g5, 2, none⟩ = some (.int .i64 E.rev) ∧ w'.cell? ⟨g5, 3, none⟩ = some (.int .i64 ych)) rfl (by kernel_rfl) (by kernel_rfl) (by decide) (fun c a d v w h => by cases d <;> exact h) ⟨a0, b2, f0, f1, f2, f3⟩ ?_
                refine perm_q (v := ?v3_0) (some 81) rfl rfl rfl ?q3_0 ?h3_0; (case q3_0 => (intro w' hS; obtain ⟨s1, s2, s3, s4, s5, s6⟩ := hS; first | (go_simp; done) | (go_simp; rfl))); (try simp only [Act.put, List.setIfInBounds_toArray, List.set_cons_zero, List.set_cons_succ])
                refine perm_q (v := ?v3_1) (some 82) rfl rfl rfl ?q3_1 ?h3_1; (case q3_1 => (intro w' hS; obtain ⟨s1, s2, s3, s4, s5, s6⟩ := hS; first | (go_simp; done) | (go_simp; rfl))); (try simp only [Act.put, List.setIfInBounds_toArray, List.set_cons_zero, List.set_cons_succ])
                refine perm_q (v := ?v3_2) (some 83) rfl rfl rfl ?q3_2 ?h3_2; (case q3_2 => (intro w' hS; obtain ⟨s1, s2, s3, s4, s5, s6⟩ := hS; first | (go_simp; done) | (go_simp; rfl))); (try simp only [Act.put, List.setIfInBounds_toArray, List.set_cons_zero, List.set_cons_succ])
                refine perm_q (v := ?v3_3) (some 84) rfl rfl rfl ?q3_3 ?h3_3; (case q3_3 => (intro w' hS; obtain ⟨s1, s2, s3, s4, s5, s6⟩ := hS; first | (go_simp; done) | (go_simp; rfl))); (try simp only [Act.put, List.setIfInBounds_toArray, List.set_cons_zero, List.set_cons_succ])
                refine perm_q (v := ?v3_4) (some 85) rfl rfl rfl ?q3_4 ?h3_4; (case q3_4 => (intro w' hS; obtain ⟨s1, s2, s3, s4, s5, s6⟩ := hS; first | (go_simp; done) | (go_simp; rfl))); (try simp only [Act.put, List.setIfInBounds_toArray, List.set_cons_zero, List.set_cons_succ])
                refine perm_q (v := ?v3_5) (some 86) rfl rfl rfl ?q3_5 ?h3_5; (case q3_5 => (intro w' hS; obtain ⟨s1, s2, s3, s4, s5, s6⟩ := hS; first | (go_simp; done) | (go_simp; rfl))); (try simp only [Act.put, List.setIfInBounds_toArray, List.set_cons_zero, List.set_cons_succ])
                refine perm_q (v := ?v3_6) (some 87) rfl rfl rfl ?q3_6 ?h3_6; (case q3_6 => (intro w' hS; obtain ⟨s1, s2, s3, s4, s5, s6⟩ := hS; first | (go_simp; done) | (go_simp; rfl))); (try simp only [Act.put, List.setIfInBounds_toArray, List.set_cons_zero, List.set_cons_succ])
                refine perm_q (v := ?v3_7) (some 88) rfl rfl rfl ?q3_7 ?h3_7; (case q3_7 => (intro w' hS; obtain ⟨s1, s2, s3, s4, s5, s6⟩ := hS; first | (go_simp; done) | (go_simp; rfl))); (try simp only [Act.put, List.setIfInBounds_toArray, List.set_cons_zero, List.set_cons_succ])
                refine perm_q (v := ?v3_8) (some 89) rfl rfl rfl ?q3_8 ?h3_8; (case q3_8 => (intro w' hS; obtain ⟨s1, s2, s3, s4, s5, s6⟩ := hS; first | (go_simp; done) | (go_simp; rfl))); (try simp only [Act.put, List.setIfInBounds_toArray, List.set_cons_zero, List.set_cons_succ])
                refine perm_e rfl ?_   -- 9: mapUpdate 61 t87 t88 t89
                go_must (refine ev_mapUpdate rfl rfl rfl Tryd.underlying61 Tryd.underlying3 (q := (i : Int)) (v := .agg #[.int .i64 yv, .slice yA yasked.length yc, .int .i64 E.rev, .int .i64 ych]) rfl rfl rfl Hmby.out Hkeyy.out ?_; intro es6 c6 w6 hb6 hkey6 hl6 hk6)
                refine wpList_nil ⟨⟨hk6.cell (w := wy.drew) a0 (fun e => m1 e.symm), hk6.cell (w := wy.drew) b2 (fun e => m2 e.symm), hk6.cell (w := wy.drew) f0 g5m, hk6.cell (w := wy.drew) f1 g5m, hk6.cell (w := wy.drew) f2 g5m, hk6.cell (w := wy.drew) f3 g5m⟩, ?_⟩
                refine perm_nil ?_
                have hk6' : Keeps (· = mb) wy w6 := (Keeps.refl (· = mb) wy).drew.trans hk6 (fun _ _ h => h)
                have hp6 := Hpy.out.core.wroteAns (k := ⟨yv, yasked, E.rev, ych⟩) hk6' Hmby.out hb6 hkey6 hl6 Hiny.out Hq.out Halz.out
                have hob6 := hk6'.blk Hoby.out (fun e => o4 e)
                have a1 := hk6'.cell a1 (fun e => m1 e.symm)
                have f0 := hk6'.cell f0 g5m
                have f1 := hk6'.cell f1 g5m
                have f2 := hk6'.cell f2 g5m
                have f3 := hk6'.cell f3 g5m
                have hb46 := hk6'.blk Hb4y.out g4m
                have ho6 := Hoy.out.keep hk6' (fun e => o4 e)
                have Hp6 := Lib.hid hp6
                have Hob6 := Lib.hid hob6
                have Hb46 := Lib.hid hb46
                have Ho6 := Lib.hid ho6
                clear hk6 hk6' hp6 hob6 hb46 ho6 hb6 hkey6 hl6
                go_wp2_with (first
                  | (refine at_delete rfl ?_; go_must (refine ev_delete (q := (i : Int)) rfl rfl rfl Tryd.underlying87 Tryd.underlying3 rfl rfl Hob6.out Hokeyy.out ?_; intro es7 c7 w7 hb7 hkey7 hl7 hk7); have Hl7 := Lib.hid hl7; clear hl7; have Hb7 := Lib.hid hb7; clear hb7
                     have f0 := hk7.cell f0 g5o
                     have f1 := hk7.cell f1 g5o
                     have f2 := hk7.cell f2 g5o
                     have f3 := hk7.cell f3 g5o
                     (try simp only [Act.put, List.setIfInBounds_toArray, List.set_cons_zero, List.set_cons_succ]))
                  | ((with_reducible refine at_store (t := 85) rfl ?_); go_must (refine ev_store (cs' := #[.int .i64 yv, .slice yA yasked.length yc, .int .i64 E.rev, .int .i64 ych]) rfl rfl rfl rfl rfl rfl Hi85.out Hs85.out rfl (hk7.blk Hb46.out g4o) (Nat.le_of_ble_eq_true rfl) rfl ?_; intro w8 hb8 hk8); (try simp only [Act.put, List.setIfInBounds_toArray, List.set_cons_zero, List.set_cons_succ])))
                have q0 := (blk_cell hb8 0).trans rfl
                have q1 := (blk_cell hb8 1).trans rfl
                have q2 := (blk_cell hb8 2).trans rfl
                have q3 := (blk_cell hb8 3).trans rfl
                refine bodyPost_ret (v := .agg #[.int .i64 yv, .slice yA yasked.length yc, .int .i64 E.rev, .int .i64 ych]) (by rw [results_cell1 rfl]; go_simp) rfl ?_
                rw [← HR.out]
                have hp7 := Hp6.out.core.wroteOpen hk7 Hb7.out
                have hc8 := hp7.core.keepF hk8 (fun k _ e => by subst e; exact N4y.out)
                exact ⟨Xz, wvz, (((Hpy.out.trans Hp6.out).trans hp7).then hk8 (fun i _ e => by omega) hc8), fun _ _ => (OpenX.pop Hob6.out Ho6.out hon Hb7.out hkey7 Hl7.out).keep hk8 (fun e => g4o e.symm), _, ⟨_, _, rfl, rfl⟩, rfl⟩
          | false =>
            have HR : Hid ((sW.set (i : Int) ⟨k.value, k.asked, E.rev, k.changed⟩, Except.ok (k.value, k.changed)) = RR) := Lib.hid (by have h := HR0.out; simp only at h; exact h)
            go_wp2_with ((with_reducible refine at_store (t := 3) rfl ?_); go_must (refine ev_store (cs' := #[.int .i64 k.value, .slice uA ul uc, .int .i64 E.rev, .int .i64 k.changed]) rfl rfl rfl rfl rfl rfl Hi3.out Hs3.out rfl Hb5W.out (Nat.le_of_ble_eq_true rfl) rfl ?_; intro wy hby hky); have Hb5y := Lib.hid hby; clear hby; (try simp only [Act.put, List.setIfInBounds_toArray, List.set_cons_zero, List.set_cons_succ]))
            have Hpy := Lib.hid (HpW.out.then hky (fun i _ e => by omega) (HpW.out.core.keepF hky (fun k _ e => by subst e; exact N5W.out)))
            have Hoy := Lib.hid (HoW.out.keep hky (fun e => N5W.out (.inl (.inr (.inl e.symm)))))
            have Hiny := Lib.hid (HinW.out.keep (X' := X1) hky (fun b _ hx e => N5W.out (.inr (.inr (.inr (by subst e; exact hx))))) (fun _ _ h => h))
            have Hb4y := Lib.hid (hky.blk Hb4W.out (by show g4 ≠ g5; omega))
            have N5y := N5W
            have N4y := N4W
            have Halz := HalW
            clear hky
            obtain ⟨a0, a1, a2, a3⟩ := Hpy.out.core.cells
            obtain ⟨_, _, _, b0, b1, b2, b3, _⟩ := Hpy.out.core.eng.cells
            obtain ⟨ey, cy, hmby, hkeyy, _, _⟩ := id Hpy.out.core.eng.ans
            obtain ⟨oy, ocy, hoby, hokeyy, _⟩ := id Hoy.out
            obtain ⟨m1, m2, m3, m4, m5⟩ := Hpy.out.core.mbFar
            obtain ⟨o1, o2, o3, o4, o5⟩ := Hpy.out.core.obFar
            have f0 := (blk_cell Hb5y.out 0).trans rfl
            have f1 := (blk_cell Hb5y.out 1).trans rfl
            have f2 := (blk_cell Hb5y.out 2).trans rfl
            have f3 := (blk_cell Hb5y.out 3).trans rfl
            have g5m : g5 ≠ mb := fun e => N5y.out (.inl (.inr (.inr (.inl e))))
            have g5o : g5 ≠ ob := fun e => N5y.out (.inl (.inr (.inl e)))
            have g4m : g4 ≠ mb := fun e => N4y.out (.inl (.inr (.inr (.inl e))))
            have g4o : g4 ≠ ob := fun e => N4y.out (.inl (.inr (.inl e)))
            have Hmby := Lib.hid hmby
            have Hkeyy := Lib.hid hkeyy
            have Hoby := Lib.hid hoby
            have Hokeyy := Lib.hid hokeyy
            clear hmby hkeyy hoby hokeyy a2 a3 b0 b1 b3
            refine wp_region_perm [(0, true), (1, true), (2, true), (3, true), (4, true), (5, true), (6, true), (7, true), (8, true), (9, false)] (fun w' => w'.cell? ⟨ab, 0, none⟩ = some (.pointer (some ⟨eb, 0, none⟩)) ∧ w'.cell? ⟨eb, 2, none⟩ = some (.map (some mb)) ∧ w'.cell? ⟨g5, 0, none⟩ = some (.int .i64 k.value) ∧ w'.cell? ⟨g5, 1, none⟩ = some (.slice uA ul uc) ∧ w'.cell? ⟨g5, 2, none⟩ = some (.int .i64 E.rev) ∧ w'.cell? ⟨g5, 3, none⟩ = some (.int .i64 k.changed)) rfl (by kernel_rfl) (by kernel_rfl) (by decide) (fun c a d v w h => by cases d <;> exact h) ⟨a0, b2, f0, f1, f2, f3⟩ ?_
            refine perm_q (v := ?v4_0) (some 81) rfl rfl rfl ?q4_0 ?h4_0; (case q4_0 => (intro w' hS; obtain ⟨s1, s2, s3, s4, s5, s6⟩ := hS; first | (go_simp; done) | (go_simp; rfl))); (try simp only [Act.put, List.setIfInBounds_toArray, List.set_cons_zero, List.set_cons_succ])
            refine perm_q (v := ?v4_1) (some 82) rfl rfl rfl ?q4_1 ?h4_1; (case q4_1 => (intro w' hS; obtain ⟨s1, s2, s3, s4, s5, s6⟩ := hS; first | (go_simp; done) | (go_simp; rfl))); (try simp only [Act.put, List.setIfInBounds_toArray, List.set_cons_zero, List.set_cons_succ])
            refine perm_q (v := ?v4_2) (some 83) rfl rfl rfl ?q4_2 ?h4_2; (case q4_2 => (intro w' hS; obtain ⟨s1, s2, s3, s4, s5, s6⟩ := hS; first | (go_simp; done) | (go_simp; rfl))); (try simp only [Act.put, List.setIfInBounds_toArray, List.set_cons_zero, List.set_cons_succ])
            refine perm_q (v := ?v4_3) (some 84) rfl rfl rfl ?q4_3 ?h4_3; (case q4_3 => (intro w' hS; obtain ⟨s1, s2, s3, s4, s5, s6⟩ := hS; first | (go_simp; done) | (go_simp; rfl))); (try simp only [Act.put, List.setIfInBounds_toArray, List.set_cons_zero, List.set_cons_succ])
            refine perm_q (v := ?v4_4) (some 85) rfl rfl rfl ?q4_4 ?h4_4; (case q4_4 => (intro w' hS; obtain ⟨s1, s2, s3, s4, s5, s6⟩ := hS; first | (go_simp; done) | (go_simp; rfl))); (try simp only [Act.put, List.setIfInBounds_toArray, List.set_cons_zero, List.set_cons_succ])
            refine perm_q (v := ?v4_5) (some 86) rfl rfl rfl ?q4_5 ?h4_5; (case q4_5 => (intro w' hS; obtain ⟨s1, s2, s3, s4, s5, s6⟩ := hS; first | (go_simp; done) | (go_simp; rfl))); (try simp only [Act.put, List.setIfInBounds_toArray, List.set_cons_zero, List.set_cons_succ])
            refine perm_q (v := ?v4_6) (some 87) rfl rfl rfl ?q4_6 ?h4_6; (case q4_6 => (intro w' hS; obtain ⟨s1, s2, s3, s4, s5, s6⟩ := hS; first | (go_simp; done) | (go_simp; rfl))); (try simp only [Act.put, List.setIfInBounds_toArray, List.set_cons_zero, List.set_cons_succ])
            refine perm_q (v := ?v4_7) (some 88) rfl rfl rfl ?q4_7 ?h4_7; (case q4_7 => (intro w' hS; obtain ⟨s1, s2, s3, s4, s5, s6⟩ := hS; first | (go_simp; done) | (go_simp; rfl))); (try simp only [Act.put, List.setIfInBounds_toArray, List.set_cons_zero, List.set_cons_succ])
            refine perm_q (v := ?v4_8) (some 89) rfl rfl rfl ?q4_8 ?h4_8; (case q4_8 => (intro w' hS; obtain ⟨s1, s2, s3, s4, s5, s6⟩ := hS; first | (go_simp; done) | (go_simp; rfl))); (try simp only [Act.put, List.setIfInBounds_toArray, List.set_cons_zero, List.set_cons_succ])
            refine perm_e rfl ?_   -- 9: mapUpdate 61 t87 t88 t89
            go_must (refine ev_mapUpdate rfl rfl rfl Tryd.underlying61 Tryd.underlying3 (q := (i : Int)) (v := .agg #[.int .i64 k.value, .slice uA ul uc, .int .i64 E.rev, .int .i64 k.changed]) rfl rfl rfl Hmby.out Hkeyy.out ?_; intro es6 c6 w6 hb6 hkey6 hl6 hk6)
            refine wpList_nil ⟨⟨hk6.cell (w := wy.drew) a0 (fun e => m1 e.symm), hk6.cell (w := wy.drew) b2 (fun e => m2 e.symm), hk6.cell (w := wy.drew) f0 g5m, hk6.cell (w := wy.drew) f1 g5m, hk6.cell (w := wy.drew) f2 g5m, hk6.cell (w := wy.drew) f3 g5m⟩, ?_⟩
            refine perm_nil ?_
            have hk6' : Keeps (· = mb) wy w6 := (Keeps.refl (· = mb) wy).drew.trans hk6 (fun _ _ h => h)
            have hp6 := Hpy.out.core.wroteAns (k := ⟨k.value, k.asked, E.rev, k.changed⟩) hk6' Hmby.out hb6 hkey6 hl6 Hiny.out Hq.out Halz.out
            have hob6 := hk6'.blk Hoby.out (fun e => o4 e)
            have a1 := hk6'.cell a1 (fun e => m1 e.symm)
            have f0 := hk6'.cell f0 g5m
            have f1 := hk6'.cell f1 g5m
            have f2 := hk6'.cell f2 g5m
            have f3 := hk6'.cell f3 g5m
            have hb46 := hk6'.blk Hb4y.out g4m
            have ho6 := Hoy.out.keep hk6' (fun e => o4 e)
            have Hp6 := Lib.hid hp6
            have Hob6 := Lib.hid hob6
            have Hb46 := Lib.hid hb46
            have Ho6 := Lib.hid ho6
            clear hk6 hk6' hp6 hob6 hb46 ho6 hb6 hkey6 hl6
            go_wp2_with (first
              | (refine at_delete rfl ?_; go_must (refine ev_delete (q := (i : Int)) rfl rfl rfl Tryd.underlying87 Tryd.underlying3 rfl rfl Hob6.out Hokeyy.out ?_; intro es7 c7 w7 hb7 hkey7 hl7 hk7); have Hl7 := Lib.hid hl7; clear hl7; have Hb7 := Lib.hid hb7; clear hb7
                 have f0 := hk7.cell f0 g5o
                 have f1 := hk7.cell f1 g5o
                 have f2 := hk7.cell f2 g5o
                 have f3 := hk7.cell f3 g5o
                 (try simp only [Act.put, List.setIfInBounds_toArray, List.set_cons_zero, List.set_cons_succ]))
              | ((with_reducible refine at_store (t := 85) rfl ?_); go_must (refine ev_store (cs' := #[.int .i64 k.value, .slice uA ul uc, .int .i64 E.rev, .int .i64 k.changed]) rfl rfl rfl rfl rfl rfl Hi85.out Hs85.out rfl (hk7.blk Hb46.out g4o) (Nat.le_of_ble_eq_true rfl) rfl ?_; intro w8 hb8 hk8); (try simp only [Act.put, List.setIfInBounds_toArray, List.set_cons_zero, List.set_cons_succ])))
            have q0 := (blk_cell hb8 0).trans rfl
            have q1 := (blk_cell hb8 1).trans rfl
            have q2 := (blk_cell hb8 2).trans rfl
            have q3 := (blk_cell hb8 3).trans rfl
            refine bodyPost_ret (v := .agg #[.int .i64 k.value, .slice uA ul uc, .int .i64 E.rev, .int .i64 k.changed]) (by rw [results_cell1 rfl]; go_simp) rfl ?_
            rw [← HR.out]
            have hp7 := Hp6.out.core.wroteOpen hk7 Hb7.out
            have hc8 := hp7.core.keepF hk8 (fun k _ e => by subst e; exact N4y.out)
            exact ⟨X1, wv1, (((Hpy.out.trans Hp6.out).trans hp7).then hk8 (fun i _ e => by omega) hc8), fun _ _ => (OpenX.pop Hob6.out Ho6.out hon Hb7.out hkey7 Hl7.out).keep hk8 (fun e => g4o e.symm), _, ⟨_, _, rfl, rfl⟩, rfl⟩
  | false =>
    have hwk : was = none := by
      have h1 := Hsm'.out
      cases hw : was with
      | none => rfl
      | some x => rw [hw] at h1; cases h1
    have Hwk := Lib.hid hwk
    clear hwk
    refine wp_region_perm [(0, true), (1, true), (2, true), (3, true), (4, true), (5, true), (6, true), (7, true), (8, true), (9, true), (10, true), (11, true), (12, true)] (fun w' => w'.cell? ⟨g5, 2, none⟩ = some (.int .i64 k.checked) ∧ w'.cell? ⟨ab, 0, none⟩ = some (.pointer (some ⟨eb, 0, none⟩)) ∧ w'.cell? ⟨eb, 3, none⟩ = some (.int .i64 E.rev)) rfl (by kernel_rfl) (by kernel_rfl) (by decide) (fun c a d v w h => by cases d <;> exact h) ⟨f2, a0, b3⟩ ?_
    refine perm_q (v := ?v5_0) (some 35) rfl rfl rfl ?q5_0 ?h5_0; (case q5_0 => (intro w' hS; obtain ⟨s1, s2, s3⟩ := hS; first | (go_simp; done) | (go_simp; rfl))); (try simp only [Act.put, List.setIfInBounds_toArray, List.set_cons_zero, List.set_cons_succ])
    refine perm_q (v := ?v5_1) (some 36) rfl rfl rfl ?q5_1 ?h5_1; (case q5_1 => (intro w' hS; obtain ⟨s1, s2, s3⟩ := hS; first | (go_simp; done) | (go_simp; rfl))); (try simp only [Act.put, List.setIfInBounds_toArray, List.set_cons_zero, List.set_cons_succ])
    refine perm_skip (some 37) rfl rfl rfl ?_; (try simp only [Act.put, List.setIfInBounds_toArray, List.set_cons_zero, List.set_cons_succ])
    refine perm_skip (some 38) rfl rfl rfl ?_; (try simp only [Act.put, List.setIfInBounds_toArray, List.set_cons_zero, List.set_cons_succ])
    refine perm_skip (some 39) rfl rfl rfl ?_; (try simp only [Act.put, List.setIfInBounds_toArray, List.set_cons_zero, List.set_cons_succ])
    refine perm_skip (some 40) rfl rfl rfl ?_; (try simp only [Act.put, List.setIfInBounds_toArray, List.set_cons_zero, List.set_cons_succ])
    refine perm_skip (some 41) rfl rfl rfl ?_; (try simp only [Act.put, List.setIfInBounds_toArray, List.set_cons_zero, List.set_cons_succ])
    refine perm_skip (some 42) rfl rfl rfl ?_; (try simp only [Act.put, List.setIfInBounds_toArray, List.set_cons_zero, List.set_cons_succ])
    refine perm_skip (some 43) rfl rfl rfl ?_; (try simp only [Act.put, List.setIfInBounds_toArray, List.set_cons_zero, List.set_cons_succ])
    refine perm_skip (some 44) rfl rfl rfl ?_; (try simp only [Act.put, List.setIfInBounds_toArray, List.set_cons_zero, List.set_cons_succ])
    refine perm_skip (some 45) rfl rfl rfl ?_; (try simp only [Act.put, List.setIfInBounds_toArray, List.set_cons_zero, List.set_cons_succ])
    refine perm_skip (some 46) rfl rfl rfl ?_; (try simp only [Act.put, List.setIfInBounds_toArray, List.set_cons_zero, List.set_cons_succ])
    refine perm_q (v := ?v5_12) (some 47) rfl rfl rfl ?q5_12 ?h5_12; (case q5_12 => (intro w' hS; obtain ⟨s1, s2, s3⟩ := hS; first | (go_simp; done) | (go_simp; rfl))); (try simp only [Act.put, List.setIfInBounds_toArray, List.set_cons_zero, List.set_cons_succ])
    refine perm_nil ?_
    by_cases hon : (i : Int) ∈ on
    · have hR := HRR.out
      rw [if_pos hon] at hR
      have HR := Lib.hid hR
      have hlk := Hoq.out i
      rw [if_pos hon] at hlk
      have Hlk := Lib.hid hlk
      clear hR HRR hlk
      go_wp2_with ((with_reducible refine at_dst (N := 54) rfl ?_); go_must (refine ev_lookup_v (W := w3.drew) (q := (i : Int)) rfl rfl Tryd.underlying87 Tryd.underlying3 zero4 rfl rfl Hob3.out Hokey.out ?_; rw [Hlk.out, Option.getD_some]); (try simp only [Act.put, List.setIfInBounds_toArray, List.set_cons_zero, List.set_cons_succ]))
      refine ⟨rfl, ?_⟩
      rw [← HR.out]
      exact ⟨X, wv, ⟨fun _ _ => Iff.rfl, HK.out.drew.mono (fun _ _ h => h.elim), .inl rfl, Hc.out.keep HK.out.drew (fun _ _ h => h)⟩, fun _ h => (by cases h), rfl⟩
    · have hR := HRR.out
      rw [if_neg hon, Hwk.out] at hR
      simp only at hR
      have HRW : Hid (workF E ask s (i : Int) was = RR) := Lib.hid (by rw [Hwk.out]; exact hR)
      have hlk := Hoq.out i
      rw [if_neg hon] at hlk
      have Hlk := Lib.hid hlk
      clear hR HRR hlk
      go_wp2_with (first
        | ((with_reducible refine at_dst (N := 54) rfl ?_); go_must (refine ev_lookup_v (W := w3.drew) (q := (i : Int)) rfl rfl Tryd.underlying87 Tryd.underlying3 zero4 rfl rfl Hob3.out Hokey.out ?_; rw [Hlk.out, Option.getD_none]); (try simp only [Act.put, List.setIfInBounds_toArray, List.set_cons_zero, List.set_cons_succ]))
        | (refine at_update rfl ?_; go_must (refine ev_mapUpdate (W := w3.drew) (q := (i : Int)) (v := .bool true) rfl rfl rfl Tryd.underlying87 Tryd.underlying3 rfl rfl rfl Hob3.out Hokey.out ?_; intro es5 c5 w5 hb5 hkey5 hl5 hk5); have Hl5 := Lib.hid hl5; have Hb5 := Lib.hid hb5; clear hl5 hb5
           have f0 := hk5.cell (w := w3.drew) f0 g5o
           have f1 := hk5.cell (w := w3.drew) f1 g5o
           have f2 := hk5.cell (w := w3.drew) f2 g5o
           have f3 := hk5.cell (w := w3.drew) f3 g5o
           (try simp only [Act.put, List.setIfInBounds_toArray, List.set_cons_zero, List.set_cons_succ])))
      have hk5' : Keeps (· = ob) w3 w5 := (Keeps.refl (· = ob) w3).drew.trans hk5 (fun _ _ h => h)
      have hp5 := Hc3.out.wroteOpen hk5' Hb5.out
      have hpW0 : AskPost w X ab eb ib mb ob E wv s w5 X wv := AskPost.after (M := Nob) HK.out hp5 rfl
      have HpW := Lib.hid hpW0
      have HoW := Lib.hid (OpenX.push (q := (i : Int)) Hob3.out Ho3.out Hb5.out hkey5 Hl5.out)
      have HiW := Lib.hid (Hi.out.open_ Hq.out hon (fun k' hk' => by
        have := Hwas.out.symm.trans hk'
        rw [Hwk.out] at this
        cases this))
      have Hb5W := Lib.hid (hk5'.blk Hb3.out g5o)
      have Hb4W := Lib.hid (hk5'.blk Hb43.out g4o)
      obtain ⟨wW, hwW⟩ : ∃ x, w5 = x := ⟨_, rfl⟩
      have N5W := N5
      have N4W := N4
      clear hk5 hk5' hp5 hpW0 hkey5
      have hwork := work_any hE HIH.out HG.out w5 X ab eb ib mb ob s wv i was uA ul uc HpW.out.core HoW.out HiW.out Hq.out Hk.out
      rw [Hkd.out, Hsm'.out] at hwork
      have hgood := evalR_good hE HG.out (hE.rok _ (rule_mem Hq.out)) HiW.out
      have hRW := HRW.out
      unfold workF at hRW
      rcases hev : evalR ask s (E.rule i) with ⟨s1, r1⟩
      rw [hev] at hwork hgood hRW
      cases r1 with
      | error c =>
        have hwork := hwork.mono (fun _ _ h => WorkPost.err h)
        (try simp only at hRW)
        have Hwork := Lib.hid hwork
        have HR := Lib.hid hRW
        clear hwork hRW hgood hev
        go_wp2_with (go_at_call 57; go_must (refine Hwork.out.mono ?_; rintro e wz ⟨Xz, wvz, hpz, rfl⟩))
        refine ⟨rfl, ?_⟩
        rw [← HR.out]
        exact ⟨Xz, wvz, HpW.out.trans hpz, fun _ h => (by cases h), rfl⟩
      | ok y =>
        obtain ⟨yv, yasked⟩ := y
        (try simp only at hRW)
        by_cases hm : E.most ≤ s1.done.length
        · rw [if_pos hm] at hRW
          have hwork := hwork.mono (fun _ _ h => WorkPost.stop hm h)
          have Hwork := Lib.hid hwork
          have HR := Lib.hid hRW
          clear hwork hRW hgood hev hm
          go_wp2_with (go_at_call 57; go_must (refine Hwork.out.mono ?_; rintro e wz ⟨Xz, wvz, hpz, rfl⟩))
          refine ⟨rfl, ?_⟩
          rw [← HR.out]
          exact ⟨Xz, wvz, HpW.out.trans hpz, fun _ h => (by cases h), rfl⟩
        · rw [if_neg hm] at hRW
          have hwork := hwork.mono (fun _ _ h => WorkPost.fine hm h)
          have Halz : Hid (({ s1 with done := s1.done ++ [(i : Int)] } : PS).ans.length = E.rules.length) := Lib.hid hgood.1.inv.alen
          generalize hsz : ({ s1 with done := s1.done ++ [(i : Int)] } : PS) = sz at *
          obtain ⟨ych, hych⟩ : ∃ x, chOf E.rev was yv = x := ⟨_, rfl⟩
          rw [hych] at hwork hRW
          have HR := Lib.hid hRW
          have Hwork := Lib.hid hwork
          clear hwork hRW hgood hev hm hsz hych
          go_wp2_with (first
            | (go_at_call 57; go_must (refine Hwork.out.mono ?_; rintro e wz ⟨Xz, wvz, uz, hpz, hoz, hinz, rfl⟩; obtain ⟨yA, yc, rfl, _, _⟩ := id hinz); have Hpz := Lib.hid hpz; have Hoz := Lib.hid hoz; have Hinz := Lib.hid hinz; clear hpz hoz hinz; (try simp only [Act.put, List.setIfInBounds_toArray, List.set_cons_zero, List.set_cons_succ]))
            | ((with_reducible refine at_store (t := 85) rfl ?_); go_must (refine ev_store (cs' := #[.int .i64 yv, .slice yA yasked.length yc, .int .i64 E.rev, .int .i64 ych]) rfl rfl rfl rfl rfl rfl Hi85.out Hs85.out rfl (Hpz.out.blk Hb5W.out (fun h => N5W.out (.inl h))) (Nat.le_of_ble_eq_true rfl) rfl ?_; intro wy hby hky); have Hby := Lib.hid hby; clear hby; (try simp only [Act.put, List.setIfInBounds_toArray, List.set_cons_zero, List.set_cons_succ])))
          have N5y := Lib.hid (Hpz.out.notF (blk_lt Hb5W.out) N5W.out)
          have N4y := Lib.hid (Hpz.out.notF (blk_lt Hb4W.out) N4W.out)
          have Hpy := Lib.hid ((HpW.out.trans Hpz.out).then hky (fun i _ e => by omega) (Hpz.out.core.keepF hky (fun k _ e => by subst e; exact N5y.out)))
          have Hoy := Lib.hid (Hoz.out.keep hky (fun e => N5y.out (.inl (.inr (.inl e.symm)))))
          have Hiny := Lib.hid (Hinz.out.keep (X' := Xz) hky (fun b _ hx e => N5y.out (.inr (.inr (.inr (by subst e; exact hx))))) (fun _ _ h => h))
          have Hb4y := Lib.hid (hky.blk (Hpz.out.blk Hb4W.out (fun h => N4W.out (.inl h))) (by show g4 ≠ g5; omega))
          have Hb5y := Hby
          clear hky Hinz Hoz Hpz
          obtain ⟨a0, a1, a2, a3⟩ := Hpy.out.core.cells
          obtain ⟨_, _, _, b0, b1, b2, b3, _⟩ := Hpy.out.core.eng.cells
          obtain ⟨ey, cy, hmby, hkeyy, _, _⟩ := id Hpy.out.core.eng.ans
          obtain ⟨oy, ocy, hoby, hokeyy, _⟩ := id Hoy.out
          obtain ⟨m1, m2, m3, m4, m5⟩ := Hpy.out.core.mbFar
          obtain ⟨o1, o2, o3, o4, o5⟩ := Hpy.out.core.obFar
          have f0 := (blk_cell Hb5y.out 0).trans rfl
          have f1 := (blk_cell Hb5y.out 1).trans rfl
          have f2 := (blk_cell Hb5y.out 2).trans rfl
          have f3 := (blk_cell Hb5y.out 3).trans rfl
          have g5m : g5 ≠ mb := fun e => N5y.out (.inl (.inr (.inr (.inl e))))
          have g5o : g5 ≠ ob := fun e => N5y.out (.inl (.inr (.inl e)))
          have g4m : g4 ≠ mb := fun e => N4y.out (.inl (.inr (.inr (.inl e))))
          have g4o : g4 ≠ ob := fun e => N4y.out (.inl (.inr (.inl e)))
          have Hmby := Lib.hid hmby
          have Hkeyy := Lib.hid hkeyy
          have Hoby := Lib.hid hoby
          have Hokeyy := Lib.hid hokeyy
          clear hmby hkeyy hoby hokeyy a2 a3 b0 b1 b3
          refine wp_region_perm [(0, true), (1, true), (2, true), (3, true), (4, true), (5, true), (6, true), (7, true), (8, true), (9, false)] (fun w' => w'.cell? ⟨ab, 0, none⟩ = some (.pointer (some ⟨eb, 0, none⟩)) ∧ w'.cell? ⟨eb, 2, none⟩ = some (.map (some mb)) ∧ w'.cell? ⟨g5, 0, none⟩ = some (.int .i64 yv) ∧ w'.cell? ⟨g5, 1, none⟩ = some (.slice yA yasked.length yc) ∧ w'.cell? ⟨g5, 2, none⟩ = some (.int .i64 E.rev) ∧ w'.cell? ⟨g5, 3, none⟩ = some (.int .i64 ych)) rfl (by kernel_rfl) (by kernel_rfl) (by decide) (fun c a d v w h => by cases d <;> exact h) ⟨a0, b2, f0, f1, f2, f3⟩ ?_
          refine perm_q (v := ?v6_0) (some 81) rfl rfl rfl ?q6_0 ?h6_0; (case q6_0 => (intro w' hS; obtain ⟨s1, s2, s3, s4, s5, s6⟩ := hS; first | (go_simp; done) | (go_simp; rfl))); (try simp only [Act.put, List.setIfInBounds_toArray, List.set_cons_zero, List.set_cons_succ])
          refine perm_q (v := ?v6_1) (some 82) rfl rfl rfl ?q6_1 ?h6_1; (case q6_1 => (intro w' hS; obtain ⟨s1, s2, s3, s4, s5, s6⟩ := hS; first | (go_simp; done) | (go_simp; rfl))); (try simp only [Act.put, List.setIfInBounds_toArray, List.set_cons_zero, List.set_cons_succ])
          refine perm_q (v := ?v6_2) (some 83) rfl rfl rfl ?q6_2 ?h6_2; (case q6_2 => (intro w' hS; obtain ⟨s1, s2, s3, s4, s5, s6⟩ := hS; first | (go_simp; done) | (go_simp; rfl))); (try simp only [Act.put, List.setIfInBounds_toArray, List.set_cons_zero, List.set_cons_succ])
          refine perm_q (v := ?v6_3) (some 84) rfl rfl rfl ?q6_3 ?h6_3; (case q6_3 => (intro w' hS; obtain ⟨s1, s2, s3, s4, s5, s6⟩ := hS; first | (go_simp; done) | (go_simp; rfl))); (try simp only [Act.put, List.setIfInBounds_toArray, List.set_cons_zero, List.set_cons_succ])
          refine perm_q (v := ?v6_4) (some 85) rfl rfl rfl ?q6_4 ?h6_4; (case q6_4 => (intro w' hS; obtain ⟨s1, s2, s3, s4, s5, s6⟩ := hS; first | (go_simp; done) | (go_simp; rfl))); (try simp only [Act.put, List.setIfInBounds_toArray, List.set_cons_zero, List.set_cons_succ])
          refine perm_q (v := ?v6_5) (some 86) rfl rfl rfl ?q6_5 ?h6_5; (case q6_5 => (intro w' hS; obtain ⟨s1, s2, s3, s4, s5, s6⟩ := hS; first | (go_simp; done) | (go_simp; rfl))); (try simp only [Act.put, List.setIfInBounds_toArray, List.set_cons_zero, List.set_cons_succ])
          refine perm_q (v := ?v6_6) (some 87) rfl rfl rfl ?q6_6 ?h6_6; (case q6_6 => (intro w' hS; obtain ⟨s1, s2, s3, s4, s5, s6⟩ := hS; first | (go_simp; done) | (go_simp; rfl))); (try simp only [Act.put, List.setIfInBounds_toArray, List.set_cons_zero, List.set_cons_succ])
          refine perm_q (v := ?v6_7) (some 88) rfl rfl rfl ?q6_7 ?h6_7; (case q6_7 => (intro w' hS; obtain ⟨s1, s2, s3, s4, s5, s6⟩ := hS; first | (go_simp; done) | (go_simp; rfl))); (try simp only [Act.put, List.setIfInBounds_toArray, List.set_cons_zero, List.set_cons_succ])
          refine perm_q (v := ?v6_8) (some 89) rfl rfl rfl ?q6_8 ?h6_8; (case q6_8 => (intro w' hS; obtain ⟨s1, s2, s3, s4, s5, s6⟩ := hS; first | (go_simp; done) | (go_simp; rfl))); (try simp only [Act.put, List.setIfInBounds_toArray, List.set_cons_zero, List.set_cons_succ])
          refine perm_e rfl ?_   -- 9: mapUpdate 61 t87 t88 t89
          go_must (refine ev_mapUpdate rfl rfl rfl Tryd.underlying61 Tryd.underlying3 (q := (i : Int)) (v := .agg #[.int .i64 yv, .slice yA yasked.length yc, .int .i64 E.rev, .int .i64 ych]) rfl rfl rfl Hmby.out Hkeyy.out ?_; intro es6 c6 w6 hb6 hkey6 hl6 hk6)
          refine wpList_nil ⟨⟨hk6.cell (w := wy.drew) a0 (fun e => m1 e.symm), hk6.cell (w := wy.drew) b2 (fun e => m2 e.symm), hk6.cell (w := wy.drew) f0 g5m, hk6.cell (w := wy.drew) f1 g5m, hk6.cell (w := wy.drew) f2 g5m, hk6.cell (w := wy.drew) f3 g5m⟩, ?_⟩
          refine perm_nil ?_
          have hk6' : Keeps (· = mb) wy w6 := (Keeps.refl (· = mb) wy).drew.trans hk6 (fun _ _ h => h)
          have hp6 := Hpy.out.core.wroteAns (k := ⟨yv, yasked, E.rev, ych⟩) hk6' Hmby.out hb6 hkey6 hl6 Hiny.out Hq.out Halz.out
          have hob6 := hk6'.blk Hoby.out (fun e => o4 e)
          have a1 := hk6'.cell a1 (fun e => m1 e.symm)
          have f0 := hk6'.cell f0 g5m
          have f1 := hk6'.cell f1 g5m
          have f2 := hk6'.cell f2 g5m
          have f3 := hk6'.cell f3 g5m
          have hb46 := hk6'.blk Hb4y.out g4m
          have ho6 := Hoy.out.keep hk6' (fun e => o4 e)
          have Hp6 := Lib.hid hp6
          have Hob6 := Lib.hid hob6
          have Hb46 := Lib.hid hb46
          have Ho6 := Lib.hid ho6
          clear hk6 hk6' hp6 hob6 hb46 ho6 hb6 hkey6 hl6
          go_wp2_with (first
            | (refine at_delete rfl ?_; go_must (refine ev_delete (q := (i : Int)) rfl rfl rfl Tryd.underlying87 Tryd.underlying3 rfl rfl Hob6.out Hokeyy.out ?_; intro es7 c7 w7 hb7 hkey7 hl7 hk7); have Hl7 := Lib.hid hl7; clear hl7; have Hb7 := Lib.hid hb7; clear hb7
               have f0 := hk7.cell f0 g5o
               have f1 := hk7.cell f1 g5o
               have f2 := hk7.cell f2 g5o
               have f3 := hk7.cell f3 g5o
               (try simp only [Act.put, List.setIfInBounds_toArray, List.set_cons_zero, List.set_cons_succ]))
            | ((with_reducible refine at_store (t := 85) rfl ?_); go_must (refine ev_store (cs' := #[.int .i64 yv, .slice yA yasked.length yc, .int .i64 E.rev, .int .i64 ych]) rfl rfl rfl rfl rfl rfl Hi85.out Hs85.out rfl (hk7.blk Hb46.out g4o) (Nat.le_of_ble_eq_true rfl) rfl ?_; intro w8 hb8 hk8); (try simp only [Act.put, List.setIfInBounds_toArray, List.set_cons_zero, List.set_cons_succ])))
          have q0 := (blk_cell hb8 0).trans rfl
          have q1 := (blk_cell hb8 1).trans rfl
          have q2 := (blk_cell hb8 2).trans rfl
          have q3 := (blk_cell hb8 3).trans rfl
          refine bodyPost_ret (v := .agg #[.int .i64 yv, .slice yA yasked.length yc, .int .i64 E.rev, .int .i64 ych]) (by rw [results_cell1 rfl]; go_simp) rfl ?_
          rw [← HR.out]
          have hp7 := Hp6.out.core.wroteOpen hk7 Hb7.out
          have hc8 := hp7.core.keepF hk8 (fun k _ e => by subst e; exact N4y.out)
          exact ⟨Xz, wvz, (((Hpy.out.trans Hp6.out).trans hp7).then hk8 (fun i _ e => by omega) hc8), fun _ _ => (OpenX.pop Hob6.out Ho6.out hon Hb7.out hkey7 Hl7.out).keep hk8 (fun e => g4o e.symm), _, ⟨_, _, rfl, rfl⟩, rfl⟩
end Go.Proofs.QW
