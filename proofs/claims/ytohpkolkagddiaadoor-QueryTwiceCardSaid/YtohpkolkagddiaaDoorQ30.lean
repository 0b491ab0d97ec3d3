/-
  A rule worked out by the specification's Plain, in memory: all kinds but RuPick come to the model's 'rRule'. Condition: nested askings come to the model's.
-/
import Derived.Test.YtohpkolkagddiaaDoorQ28
import Derived.Test.YtohpkolkagddiaaDoorQ29
namespace Go.Proofs.QW
open Go.RowKit Go.Proofs.KL Go.Proofs.QM
set_option maxRecDepth 100000
set_option linter.unusedSimpArgs false
set_option linter.unusedVariables false

/-- What the specification's asking comes to. -/
def RAns (w : World) (X Y : Nat → Prop) (pb kb nb : Nat) (E : Env) (on : List Int) (r : Known × RA) (e : Ending) (w' : World) : Prop :=
  (∃ b : Bool, e = .returned (.agg #[.bool b, .int .i64 r.2.n, .int .i64 r.2.cost, .int .i64 r.2.e])) ∧ Keeps (fun x => x = kb ∨ x = nb) w w' ∧ PlainAt w' X Y pb kb nb E.rules E.inp on r.1
def RAskOK (E : Env) (on : List Int) (rask : RAsk) : Prop :=
  ∀ w X Y pb kb nb s q, PlainAt w X Y pb kb nb E.rules E.inp on s → KB E.rules.length s → InQ E q →
    Calls Tryd.prog 35 #[.pointer (some ⟨pb, 0, none⟩), .int .i64 q] w (RAns w X Y pb kb nb E on (rask s q))
section
variable {P : Program} {ops : Array Oper} {rest : List Oper} {o : Oper} {a : Act} {Q : Exit → Act → World → Prop}
theorem ev_min {W : World} (hgd : o.guard = none) {x y : Operand} {ts : Array TypeId} (ho : o.op = .call { callee := .builtin .min, args := #[x, y], argTypes := ts }) {k k' : IntKind} {p q m : Int} (hx : a.eval x = .int k p) (hy : a.eval y = .int k' q) (hm : (if q < p then q else p) = m)
    (h : wpList P ops Q rest (a.put o.dst (.int k m)) W) : wpList P ops Q (o :: rest) a W :=
  ev_run hgd (w1 := W) (v := .int k m) (by simp [execOp, ho, resolve, invoke, builtin, hx, hy, Go.run_min_int2, hm]) h
end
theorem info80 : ∃ i, Tryd.prog.info? 80 = some i ∧ i.size = 4 := by
  have h : (Tryd.prog.info? 80).map (·.size) = some 4 := by kernel_rfl
  obtain ⟨i, hi, hs⟩ := Option.map_eq_some_iff.1 h
  exact ⟨i, hi, hs⟩
theorem zero80 : (Tryd.prog.info? 80).map (·.zero) = some (some (.agg #[.bool false, .int .i64 0, .int .i64 0, .int .i64 0])) := by kernel_rfl
/-- The answer of a rule that is no RuPick, for what it got. -/
theorem Answer_any {n : Int} {r : QRule} (hr : ROk n r) (h1 : r.kind ≠ 1) (h3 : r.kind ≠ 3) {av sv : Value} {got : List Int} {w : World} {X X' : Nat → Prop} (ha : IntsX w X' av r.asks) (hx : IntsX w X sv got) (hl : got.length ≤ r.asks.length) (hv : ∀ v ∈ got, 0 ≤ v ∧ v ≤ 1048576) (hf : r.kind ≠ 4 → got.length = r.asks.length) :
    Calls Tryd.prog 64 #[.agg #[.int .i64 r.kind, .int .i64 r.n, av], sv] w fun e w' => e = .returned (.int .i64 (answerOf r got)) ∧ Keeps Nob w w' := by
  have l12 := hr.l12
  obtain ⟨k1, k2, n1, n2, _, l1, l2, _⟩ := hr
  obtain ⟨K, N, asks⟩ := r
  simp only at *
  have hK : K = 2 ∨ K = 4 ∨ K = 5 ∨ K = 6 := by omega
  rcases hK with rfl | rfl | rfl | rfl
  · have n1 : (1 : Int) ≤ N := n1
    have n2 : N ≤ 1048576 := n2
    exact Answer_sum N av sv asks got w X X' ha hx (by omega) hv n1 n2
  · exact Answer_first N av sv asks got w X X' ha hx (by omega)
  · have l1 : (2 : Int) ≤ asks.length := l1
    have l2 : (asks.length : Int) ≤ 2 := l2
    have hg := hf (by decide)
    match got, (show got.length = 2 by omega) with
    | [x, y], _ => exact Answer_less N x y av sv asks w X X' ha hx
  · have l1 : (1 : Int) ≤ asks.length := l1
    have l2 : (asks.length : Int) ≤ 1 := l2
    have n1 : (-1000 : Int) ≤ N := n1
    have n2 : N ≤ 1000 := n2
    have hg := hf (by decide)
    match got, (show got.length = 1 by omega) with
    | [x], _ =>
      obtain ⟨x0, x1⟩ := hv x (by simp)
      exact Answer_step N x av sv asks w X X' ha hx x0 x1 n1 n2
def rprep (got : List Int) (r : Known × Int × Except Int (List Int)) : Known × Int × Except Int (List Int) :=
  match r with
  | (s, c, .error e) => (s, c, .error e)
  | (s, c, .ok vs) => (s, c, .ok (got ++ vs))
/-- The state of the loop over what a rule asks. -/
structure RLoop (w1 : World) (X Y : Nat → Prop) (pb kb nb g5 : Nat) (E : Env) (on : List Int) (rask : RAsk) (stop : Bool) (s : Known) (L : List Int) (k : Nat) (got : List Int) (sk : Known) (c : Int) (gv : Value) (wr : World) : Prop where
  len : got.length = k
  rng : ∀ v ∈ got, 0 ≤ v ∧ v ≤ 1048576
  keep : Keeps (fun x => x = kb ∨ x = nb ∨ x = g5) w1 wr
  pa : PlainAt wr X Y pb kb nb E.rules E.inp on sk
  kn : KB E.rules.length sk
  own : wr.ownsRow w1.heap.size 3 1 gv k (got.map (Value.int .i64))
  out : wr.heap[g5]? = some (.cells #[.bool false, .int .i64 0, .int .i64 c, .int .i64 0] 80 (0, 0))
  c01 : 0 ≤ c ∧ c ≤ 1048576
  eq : rAll rask stop s 1 L = rprep got (rAll rask stop sk c (L.drop k))
theorem RLoop.start {w1 : World} {X Y : Nat → Prop} {pb kb nb g5 : Nat} {E : Env} {on : List Int} {rask : RAsk} {stop : Bool} {s : Known} {L : List Int} (hp : PlainAt w1 X Y pb kb nb E.rules E.inp on s) (hk : KB E.rules.length s)
    (ho : w1.heap[g5]? = some (.cells #[.bool false, .int .i64 0, .int .i64 1, .int .i64 0] 80 (0, 0))) : RLoop w1 X Y pb kb nb g5 E on rask stop s L 0 [] s 1 (.slice none 0 0) w1 :=
  ⟨rfl, fun _ h => (by cases h), Keeps.refl _ _, hp, hk, ⟨rfl, .inl ⟨rfl, rfl⟩⟩, ho, ⟨by decide, by decide⟩, by
    rcases h : rAll rask stop s 1 L with ⟨s2, c2, r2⟩
    cases r2 <;> simp [rprep, h]⟩
section
variable {w1 wr : World} {X Y : Nat → Prop} {pb kb nb g5 : Nat} {E : Env} {on : List Int} {rask : RAsk} {stop : Bool} {s sk s1 : Known} {L : List Int} {k : Nat} {got : List Int} {c : Int} {gv : Value} {a : RA}
theorem RLoop.err (h : RLoop w1 X Y pb kb nb g5 E on rask stop s L k got sk c gv wr) (hlt : k < L.length) (hr : rask sk (L.getD k 0) = (s1, a)) (he : a.e ≠ 0) : rAll rask stop s 1 L = (s1, capM (c + a.cost), .error a.e) := by
  rw [h.eq, drop_cons hlt, rAll, hr]
  simp only [if_pos he]; rfl
theorem RLoop.stop_ (h : RLoop w1 X Y pb kb nb g5 E on rask true s L k got sk c gv wr) (hlt : k < L.length) (hr : rask sk (L.getD k 0) = (s1, a)) (he : a.e = 0) (hn : a.n ≠ 0) : rAll rask true s 1 L = (s1, capM (c + a.cost), .ok (got ++ [a.n])) := by
  rw [h.eq, drop_cons hlt, rAll, hr]
  simp [he, hn, rprep]
theorem RLoop.end_ (h : RLoop w1 X Y pb kb nb g5 E on rask stop s L L.length got sk c gv wr) : rAll rask stop s 1 L = (sk, c, .ok got) := by
  rw [h.eq, List.drop_length]; simp [rAll, rprep]
theorem RLoop.step_eq (h : RLoop w1 X Y pb kb nb g5 E on rask stop s L k got sk c gv wr) (hlt : k < L.length) (hr : rask sk (L.getD k 0) = (s1, a)) (he : a.e = 0) (hs : ¬ (stop = true ∧ a.n ≠ 0)) : rAll rask stop s 1 L = rprep (got ++ [a.n]) (rAll rask stop s1 (capM (c + a.cost)) (L.drop (k + 1))) := by
  rw [h.eq, drop_cons hlt, rAll, hr]
  simp only [if_neg hs, if_neg (show ¬ a.e ≠ 0 from fun h => h he)]
  rcases rAll rask stop s1 (capM (c + a.cost)) (L.drop (k + 1)) with ⟨s2, c2, r2⟩
  cases r2 <;> simp [rprep]
end
theorem capM_min {c m : Int} (h : capM c = m) : (if (1048576 : Int) < c then 1048576 else c) = m := by rw [← h]; unfold capM; omega
theorem PlainAt.lts {w : World} {X Y : Nat → Prop} {pb kb nb : Nat} {rules : List QRule} {vs on : List Int} {k : Known} (h : PlainAt w X Y pb kb nb rules vs on k) : kb < w.heap.size ∧ nb < w.heap.size := by
  obtain ⟨cs, h1, _⟩ := h.known
  obtain ⟨cs2, h2, _⟩ := h.open_
  exact ⟨blk_lt h1, blk_lt h2⟩
theorem RLoop.keepW {w w1 wr : World} {X Y : Nat → Prop} {pb kb nb g5 : Nat} {E : Env} {on : List Int} {rask : RAsk} {stop : Bool} {s sk : Known} {L : List Int} {k : Nat} {got : List Int} {c : Int} {gv : Value} (h : RLoop w1 X Y pb kb nb g5 E on rask stop s L k got sk c gv wr) (h0 : Keeps Nob w w1) (hg : w.heap.size ≤ g5) : Keeps (fun x => x = kb ∨ x = nb) w wr :=
  (h0.mono (fun _ _ h => h.elim)).trans h.keep (fun i hi hm => by
    rcases hm with hm | hm | hm
    · exact .inl hm
    · exact .inr hm
    · omega)
theorem RLoop.ownFar {w1 wr : World} {X Y : Nat → Prop} {pb kb nb g5 : Nat} {E : Env} {on : List Int} {rask : RAsk} {stop : Bool} {s sk : Known} {L : List Int} {k : Nat} {got : List Int} {c : Int} {gv : Value} (h : RLoop w1 X Y pb kb nb g5 E on rask stop s L k got sk c gv wr) : ∀ b, gv.ownBlock = some b → w1.heap.size ≤ b ∧ b < wr.heap.size := fun b hb => by
  refine ⟨?_, (own_lt h.own b hb).1⟩
  rcases h.own.2 with ⟨rfl, _⟩ | ⟨g, cap, cur, rfl, hg, _⟩
  · cases hb
  · simp [Value.ownBlock] at hb; omega
theorem PlainAt.mix {w w2 w7 : World} {X Y : Nat → Prop} {pb kb nb : Nat} {rules : List QRule} {vs on on' : List Int} {s s1 : Known} (h : PlainAt w X Y pb kb nb rules vs on s) (hk : Keeps (fun x => x = kb ∨ x = nb) w w7) (h2 : PlainAt w2 X Y pb kb nb rules vs on' s1) {M : Nat → Prop} (hk2 : Keeps M w2 w7) (h3 : ¬ M kb) (h4 : ¬ M nb) : PlainAt w7 X Y pb kb nb rules vs on' s1 := by
  obtain ⟨⟨rv, iv, hb, hr, hv⟩, ⟨ck, hk1, _⟩, ⟨cn, hn1, _⟩, x1, x2, y1, y2⟩ := h
  have n1 : pb ≠ kb := fun e => by subst e; have := hb.symm.trans hk1; injection this with this; injection this with _ this _; exact absurd this (by decide)
  have n2 : pb ≠ nb := fun e => by subst e; have := hb.symm.trans hn1; injection this with this; injection this with _ this _; exact absurd this (by decide)
  have hX : ∀ b, b < w.heap.size → X b → ¬ (b = kb ∨ b = nb) := fun b _ hx hm => hm.elim (fun e => x1 (e ▸ hx)) (fun e => x2 (e ▸ hx))
  have hY : ∀ b, b < w.heap.size → Y b → ¬ (b = kb ∨ b = nb) := fun b _ hx hm => hm.elim (fun e => y1 (e ▸ hx)) (fun e => y2 (e ▸ hx))
  exact ⟨⟨rv, iv, hk.blk hb (fun hm => hm.elim n1 n2), hr.keep hk hX (fun _ _ h => h), hv.keep hk hY (fun _ _ h => h)⟩, h2.known.keep hk2 h3, h2.open_.keep hk2 h4, x1, x2, y1, y2⟩
theorem own_base {w : World} {base e size n : Nat} {v : Value} {xs : List Value} (h : w.ownsRow base e size v n xs) : w.ownsRow 0 e size v n xs :=
  ⟨h.1, h.2.imp id (fun ⟨g, cap, cur, h1, _, h3⟩ => ⟨g, cap, cur, h1, Nat.zero_le _, h3⟩)⟩
theorem RLoop.next {w1 wr w7 : World} {X Y : Nat → Prop} {pb kb nb g5 : Nat} {E : Env} {on : List Int} {rask : RAsk} {stop : Bool} {s sk s1 : Known} {L : List Int} {k : Nat} {got : List Int} {c m : Int} {gv av7 : Value} {a : RA} (h : RLoop w1 X Y pb kb nb g5 E on rask stop s L k got sk c gv wr) (hlt : k < L.length) (hr : rask sk (L.getD k 0) = (s1, a)) (he : a.e = 0) (hs : ¬ (stop = true ∧ a.n ≠ 0))
    (hv : 0 ≤ a.n ∧ a.n ≤ 1048576) (hm : capM (c + a.cost) = m) (hc : 0 ≤ m ∧ m ≤ 1048576) (hk : Keeps (fun x => (x = kb ∨ x = nb ∨ x = g5) ∨ some x = gv.ownBlock) wr w7) (hp : PlainAt w7 X Y pb kb nb E.rules E.inp on s1) (hkn : KB E.rules.length s1)
    (hown : w7.ownsRow w1.heap.size 3 1 av7 (k + 1) (got.map (Value.int .i64) ++ [.int .i64 a.n])) (ho : w7.heap[g5]? = some (.cells #[.bool false, .int .i64 0, .int .i64 m, .int .i64 0] 80 (0, 0))) :
    RLoop w1 X Y pb kb nb g5 E on rask stop s L (k + 1) (got ++ [a.n]) s1 m av7 w7 := by
  refine ⟨by simp [h.len], fun u hu => ?_, h.keep.trans hk (fun i hi hm => hm.elim id (fun e => absurd hi (by have := (h.ownFar i e.symm).1; omega))), hp, hkn, by simpa using hown, ho, hc, by rw [h.step_eq hlt hr he hs, hm]⟩
  rcases List.mem_append.1 hu with hu | hu
  · exact h.rng u hu
  · rw [List.mem_singleton.1 hu]; exact hv
theorem KeepsLoop {w1 wr : World} {kb nb g5 : Nat} (h : Keeps (fun x => x = kb ∨ x = nb ∨ x = g5) w1 wr) {b : Nat} {o : Obj} (hb : w1.heap[b]? = some o) (h1 : b ≠ kb) (h2 : b ≠ nb) (h3 : b ≠ g5) : wr.heap[b]? = some o :=
  h.blk hb (fun hm => hm.elim h1 (fun hm => hm.elim h2 h3))

set_option maxHeartbeats 4000000 in
/-- All kinds but RuPick. -/
theorem rrule_loop {E : Env} {on : List Int} {rask : RAsk} (IH : RAskOK E on rask) (hG : RGood E.rules.length rask) (w : World) (X Y : Nat → Prop) (pb kb nb : Nat) (s : Known) (asv : Value) (r : QRule) (hr : ROk E.rules.length r) (h1 : r.kind ≠ 1) (h3 : r.kind ≠ 3)
    (hp : PlainAt w X Y pb kb nb E.rules E.inp on s) (hkb : KB E.rules.length s) (hx : IntsX w X asv r.asks) :
    Calls Tryd.prog 55 #[.pointer (some ⟨pb, 0, none⟩), .agg #[.int .i64 r.kind, .int .i64 r.n, asv]] w (RAns w X Y pb kb nb E on (rRule rask s r)) := by
  obtain ⟨RR, hRR⟩ : ∃ x, rRule rask s r = x := ⟨_, rfl⟩
  rw [hRR]
  unfold rRule at hRR
  rw [if_neg h3] at hRR
  have HRR := Lib.hid hRR
  have Hans := Lib.hid (fun (av sv : Value) (got : List Int) (w : World) (X X' : Nat → Prop) => Answer_any hr h1 h3 (av := av) (sv := sv) (got := got) (w := w) (X := X) (X' := X'))
  have hl12 := hr.l12
  have Hq := Lib.hid hr.asks
  obtain ⟨K, N, asks⟩ := r
  simp only at hl12 h1 h3
  obtain ⟨A, ac, rfl, -, -⟩ := id hx
  have hk3 : (K == 3) = false := by simpa using h3
  obtain ⟨b4, hb4⟩ : ∃ b, (K == 4) = b := ⟨_, rfl⟩
  obtain ⟨i80, hi80, hs80⟩ := info80
  obtain ⟨i3, hi3, hs3⟩ := infoS3
  have HI := Lib.hid (And.intro (And.intro hi80 hs80) (And.intro hi3 hs3))
  have Hp := Lib.hid hp
  have Hx := Lib.hid hx
  have HK := Lib.hid hkb
  have HIH := Lib.hid IH
  have HG := Lib.hid hG
  clear hRR hr hp hx hkb IH hG h1 h3 hi80 hs80 hi3 hs3
  go_enter Tryd.func55, Tryd.ntmps55
  go_wp2_with (first
    | ((with_reducible refine at_dst (N := 3) rfl ?_); go_must (refine ev_box (cs := #[.int .i64 K, .int .i64 N, .slice A asks.length ac]) rfl rfl rfl ?_; intro g3 wa hg3 hl3 hb3 hka); have Hb3 := Lib.hid hb3; have f2 := (blk_cell hb3 2).trans rfl; clear hb3; (try simp only [Act.put, List.setIfInBounds_toArray, List.set_cons_zero, List.set_cons_succ]))
    | ((with_reducible refine at_dst (N := 4) rfl ?_); go_must (refine ev_alloc rfl rfl zero80 rfl ?_; intro g4 wb hg4 hl4 hb4' hkb); have Hb4 := Lib.hid hb4'; have f2 := hkb.cell f2 id; clear hb4'; (try simp only [Act.put, List.setIfInBounds_toArray, List.set_cons_zero, List.set_cons_succ]))
    | ((with_reducible refine at_dst (N := 5) rfl ?_); go_must (refine ev_alloc rfl rfl zero80 rfl ?_; intro g5 wc hg5 hl5 hb5 hkc); have Hb5 := Lib.hid hb5; have f2 := hkc.cell f2 id; clear hb5; (try simp only [Act.put, List.setIfInBounds_toArray, List.set_cons_zero, List.set_cons_succ]))
    | ((with_reducible refine at_store (t := 80) (p := 5) rfl ?_); go_must (refine ev_store (cs' := #[.bool false, .int .i64 0, .int .i64 1, .int .i64 0]) rfl rfl rfl rfl rfl rfl HI.out.1.1 HI.out.1.2 rfl Hb5.out (Nat.le_of_ble_eq_true rfl) rfl ?_; intro w1 hb5' hkd); have Hb51 := Lib.hid hb5'; have f2 := hkd.cell f2 (by show ¬ g3 = g5; omega); clear hb5'; (try simp only [Act.put, List.setIfInBounds_toArray, List.set_cons_zero, List.set_cons_succ])))
  have hk01 : Keeps Nob w w1 := (((hka.trans hkb (fun _ _ h => h)).trans hkc (fun _ _ h => h)).own hkd (by have := hka.size; have := hkb.size; omega))
  have z1 := hka.size
  have z2 := hkb.size
  have z3 := hkc.size
  have z4 := hkd.size
  obtain ⟨lkb, lnb⟩ := Hp.out.lts
  have Hb31 := Lib.hid (hkd.blk (hkc.blk (hkb.blk Hb3.out id) id) (by show ¬ g3 = g5; omega))
  have Hb41 := Lib.hid (hkd.blk (hkc.blk Hb4.out id) (by show ¬ g4 = g5; omega))
  have Hg := Lib.hid (show (w.heap.size ≤ g3 ∧ g3 < g4 ∧ g4 < g5 ∧ g5 < w1.heap.size) ∧ (kb < w.heap.size ∧ nb < w.heap.size) from ⟨⟨hg3, by omega, by omega, by omega⟩, lkb, lnb⟩)
  have Hk01 := Lib.hid hk01
  have Hst0 := Lib.hid (RLoop.start (rask := rask) (stop := K == 4) (L := asks) (g5 := g5) (Hp.out.keep hk01) HK.out Hb51.out)
  clear hk01 hka hkb hkc hkd lkb lnb z1 z2 z3 z4 hg3 hg4 hg5 hl3 hl4 hl5 Hb3 Hb4 Hb5 Hb51
  go_loopw [6, 15] (fun gv v wr => ∃ (k : Nat) (got : List Int) (sk : Known) (c : Int), v = .int .i64 k ∧ k ≤ asks.length ∧ Hid (RLoop w1 X Y pb kb nb g5 E on rask (K == 4) s asks k got sk c gv wr))
    (fun _ v _ => asks.length - (intOf v).toNat)
  case atStart => exact ⟨0, [], s, 1, rfl, Nat.zero_le _, Hst0⟩
  case round =>
    obtain ⟨k, got, sk, c, rfl, hk, hst⟩ := hrel
    have HKw := Lib.hid (hst.out.keepW Hk01.out (by have := Hg.out; omega))
    have hb3r := KeepsLoop hst.out.keep Hb31.out (by have := Hg.out; omega) (by have := Hg.out; omega) (by have := Hg.out; omega)
    have Hb3r := Lib.hid hb3r
    have Hb4r := Lib.hid (KeepsLoop hst.out.keep Hb41.out (by have := Hg.out; omega) (by have := Hg.out; omega) (by have := Hg.out; omega))
    by_cases hlt : k < asks.length
    · have hx1 := Hx.out.keep (X' := X) HKw.out (fun b _ hb hm => hm.elim (fun e => Hp.out.xk (e ▸ hb)) (fun e => Hp.out.xn (e ▸ hb))) (fun _ _ h => h)
      obtain ⟨b, o, rfl, _, _⟩ := (by obtain ⟨A', c', h1, _, h3⟩ := Hx.out; injection h1 with h1 _ _; subst h1; exact h3 k hlt : ∃ b o, A = some ⟨b, o, none⟩ ∧ X b ∧ w.cell? ⟨b, o + k, none⟩ = some (.int .i64 (asks.getD k 0)))
      have hcw := hx1.cellAt hlt
      obtain ⟨q, Hqd⟩ : ∃ q, Hid (asks.getD k 0 = q) := ⟨_, rfl⟩
      rw [Hqd.out] at hcw
      have hqq := Hq.out _ (getD_mem hlt)
      have hgood := HG.out sk (asks.getD k 0) hst.out.kn hqq
      have hrun := HIH.out wr X Y pb kb nb sk (asks.getD k 0) hst.out.pa hst.out.kn hqq
      rcases hr : rask sk (asks.getD k 0) with ⟨s1, a⟩
      rw [hr] at hgood hrun
      have Hr := Lib.hid hr
      obtain ⟨an, ac1, ae⟩ := a
      simp only at hgood
      rw [Hqd.out] at hrun
      obtain ⟨hgk, ⟨hc0, hc1⟩, hgn⟩ := hgood
      have Hgk := Lib.hid hgk
      have Hgn := Lib.hid hgn
      have Hrun := Lib.hid hrun
      obtain ⟨c0, c1⟩ := hst.out.c01
      have hw : IntKind.i64.wrap (c + ac1) = c + ac1 := IntWalk.i64_in _ (by omega)
      have f0 := (blk_cell hb3r 0).trans rfl
      clear hr hgk hgn hrun hx1 hb3r hqq
      obtain ⟨m, hm⟩ : ∃ m, capM (c + ac1) = m := ⟨_, rfl⟩
      have hm01 := capM_range (c := c + ac1) (by omega)
      rw [hm] at hm01
      obtain ⟨m0, m1⟩ := hm01
      have Hm := Lib.hid hm
      clear hm
      have Hf := Lib.hid hst.out.own
      have Hof := Lib.hid (hst.out.ownFar)
      by_cases hae : ae = 0
      · have haeb : (ae != 0) = false := by simp [hae]
        have Hae := Lib.hid hae
        clear hae
        obtain ⟨n0, n1⟩ := Hgn.out Hae.out
        by_cases hst4 : K = 4 ∧ an ≠ 0
        · obtain ⟨hK4, han⟩ := hst4
          have hanb : (an != 0) = true := by simpa using han
          have hb4t : (K == 4) = true := by simpa using hK4
          have Han := Lib.hid han
          have HK4 := Lib.hid hK4
          clear han hb4 hK4
          go_wp2_with (first
            | (go_at_call 35; go_must (refine Hrun.out.mono ?_; rintro e w2 ⟨⟨b9, rfl⟩, hk2, hp2⟩); have Hp2 := Lib.hid hp2; clear hp2; (try simp only [Act.put, List.setIfInBounds_toArray, List.set_cons_zero, List.set_cons_succ]))
            | ((with_reducible refine at_dst (N := 9) rfl ?_); go_must (refine ev_alloc rfl rfl zero80 rfl ?_; intro g9 w3 hg9 hl9 hb9 hk3'); have Hb9 := Lib.hid hb9; clear hb9; (try simp only [Act.put, List.setIfInBounds_toArray, List.set_cons_zero, List.set_cons_succ]))
            | ((with_reducible refine at_store (t := 80) (p := 9) rfl ?_); go_must (refine ev_store (cs' := #[.bool b9, .int .i64 an, .int .i64 ac1, .int .i64 ae]) rfl rfl rfl rfl rfl rfl HI.out.1.1 HI.out.1.2 rfl Hb9.out (Nat.le_of_ble_eq_true rfl) rfl ?_; intro w4 hb94 hk4); have Hb94 := Lib.hid hb94; clear hb94
               have e1 := (blk_cell Hb94.out 1).trans rfl
               have e2 := (blk_cell Hb94.out 2).trans rfl
               have e3 := (blk_cell Hb94.out 3).trans rfl
               have lg5 : g5 < w3.heap.size := by have := Hg.out; have := hst.out.keep.size; have := hk2.size; have := hk3'.size; omega
               have hb54 := hk4.blk (hk3'.blk (hk2.blk hst.out.out (by have := Hg.out; show ¬ (g5 = kb ∨ g5 = nb); omega)) id) (by have := Hg.out; have := hst.out.keep.size; have := hk2.size; show ¬ g5 = g9; omega)
               have Hb54 := Lib.hid hb54
               have d2 := (blk_cell hb54 2).trans rfl
               clear hb54
               (try simp only [Act.put, List.setIfInBounds_toArray, List.set_cons_zero, List.set_cons_succ]))
            | ((with_reducible refine at_dst (N := 35) rfl ?_); go_must (refine ev_min rfl rfl (p := c + ac1) (q := 1048576) rfl rfl (capM_min Hm.out) ?_); (try simp only [Act.put, List.setIfInBounds_toArray, List.set_cons_zero, List.set_cons_succ]))
            | ((with_reducible refine at_store (t := 3) (p := 36) rfl ?_); go_must (refine ev_store (cs' := #[.bool false, .int .i64 0, .int .i64 m, .int .i64 0]) rfl rfl rfl rfl rfl rfl HI.out.2.1 HI.out.2.2 rfl Hb54.out (Nat.le_of_ble_eq_true rfl) rfl ?_; intro w5 hb55 hk5); have Hb55 := Lib.hid hb55; clear hb55
               have e1 := hk5.cell e1 (by have := Hg.out; have := hst.out.keep.size; have := hk2.size; show ¬ g9 = g5; omega)
               have d2 := (blk_cell Hb55.out 2).trans rfl
               have e3 := hk5.cell e3 (by have := Hg.out; have := hst.out.keep.size; have := hk2.size; show ¬ g9 = g5; omega)
               (try simp only [Act.put, List.setIfInBounds_toArray, List.set_cons_zero, List.set_cons_succ]))
            | ((with_reducible refine at_dst (N := 48) rfl ?_); go_must (refine ev_slice (cs := #[.int .i64 an]) (t := 3) (n := 1) (c := 1) rfl (by first | (go_simp; done) | (go_simp; rfl)) ?_; intro g6 w6 hg6 hl6 hb6 hk6); have Hb6 := Lib.hid hb6; clear hb6
               have hk36 : Keeps (fun x => x = kb ∨ x = nb ∨ x = g5) wr w6 := ((((hk2.mono (fun _ _ h => h.imp id .inl)).trans hk3' (fun _ _ h => h.elim)).own hk4 (by have := hk2.size; omega)).into hk5 (.inr (.inr rfl))).trans hk6 (fun _ _ h => h.elim)
               have HK36 := Lib.hid hk36
               clear hk36
               (try simp only [Act.put, List.setIfInBounds_toArray, List.set_cons_zero, List.set_cons_succ]))
            | ((with_reducible refine at_dst (N := 49) rfl ?_); go_must (refine ev_append (W := w6) rfl rfl Tryd.underlying23 info3 rfl (by decide) (base := w1.heap.size) rfl (ownsRow_keep Hf.out HK36.out (fun b hb hm => by have := (Hof.out b hb); have := Hg.out; rcases hm with hm | hm | hm <;> omega)) (news := [.int .i64 an]) rfl rfl (fun _ => ⟨_, rfl, World.news_of_block Hb6.out⟩) (by simp [Value.oneCell']) (by omega) (by decide) (by have := hst.out.keep.size; have := HK36.out.size; omega) ?_; intro av7 w7 hown7 hk7 hr7 hf7); go_must (have Hown7 := Lib.hid hown7; have Hr7 := Lib.hid hr7; clear hown7 hf7 hr7); go_must (have e1 := hk7.cell (hk6.cell e1 id) (fun e => by have := (Hof.out g9 e.symm).2; have := hk2.size; have := hg9; omega))
               have hnk : ∀ g, g < w1.heap.size → g ≠ kb → g ≠ nb → ¬ (some g = Value.ownBlock u6) ∧ (g ≠ g5 → ¬ (g = kb ∨ g = nb ∨ g = g5)) := fun g hg h1 h2 => ⟨fun e => by have := (Hof.out g e.symm).1; omega, fun h3 hm => hm.elim h1 (fun hm => hm.elim h2 h3)⟩
               go_must (have hb37 := hk7.blk (HK36.out.blk Hb3r.out ((hnk g3 (by have := Hg.out; omega) (by have := Hg.out; omega) (by have := Hg.out; omega)).2 (by have := Hg.out; omega))) (hnk g3 (by have := Hg.out; omega) (by have := Hg.out; omega) (by have := Hg.out; omega)).1)
               go_must (have hb47 := hk7.blk (HK36.out.blk Hb4r.out ((hnk g4 (by have := Hg.out; omega) (by have := Hg.out; omega) (by have := Hg.out; omega)).2 (by have := Hg.out; omega))) (hnk g4 (by have := Hg.out; omega) (by have := Hg.out; omega) (by have := Hg.out; omega)).1)
               go_must (have hb57 := hk7.blk (hk6.blk Hb55.out id) (hnk g5 (by have := Hg.out; omega) (by have := Hg.out; omega) (by have := Hg.out; omega)).1)
               have f0 := (blk_cell hb37 0).trans rfl
               have f1 := (blk_cell hb37 1).trans rfl
               have f2 := (blk_cell hb37 2).trans rfl
               go_must (have hkw7 : Keeps (fun x => x = kb ∨ x = nb) w w7 := (HKw.out.trans HK36.out (fun i hi hm => by have := Hg.out; rcases hm with hm | hm | hm; exact .inl hm; exact .inr hm; omega)).trans hk7 (fun i hi e => by have := (Hof.out i e.symm).1; have := Hg.out; have := Hk01.out.size; omega))
               go_must (have hp7 := Hp.out.mix hkw7 Hp2.out ((((hk3'.mono (M' := fun x => x = g5 ∨ some x = Value.ownBlock u6) (fun _ _ h => h.elim)).own hk4 hg9).into hk5 (.inl rfl)).trans ((hk6.mono (M' := fun x => some x = Value.ownBlock u6) (fun _ _ h => h.elim)).trans hk7 (fun _ _ h => h)) (fun _ _ h => .inr h)) (fun hm => by have := Hg.out; rcases hm with hm | hm; omega; have := (Hof.out kb hm.symm).1; omega) (fun hm => by have := Hg.out; rcases hm with hm | hm; omega; have := (Hof.out nb hm.symm).1; omega))
               have HKw7 := Lib.hid hkw7
               have Hp7 := Lib.hid hp7
               have Hk37 := Lib.hid (show Keeps (fun x => (x = kb ∨ x = nb ∨ x = g5) ∨ some x = Value.ownBlock u6) wr w7 from (HK36.out.mono (fun _ _ h => .inl h)).trans hk7 (fun _ _ h => .inr h))
               clear hkw7 hp7
               have Hb37 := Lib.hid hb37
               have Hb47 := Lib.hid hb47
               have Hb57 := Lib.hid hb57
               clear hb37 hb47 hb57 hnk
               (try simp only [Act.put, List.setIfInBounds_toArray, List.set_cons_zero, List.set_cons_succ]))
            | (go_at_call 64
               go_must (have hanz := Hans.out _ _ (got ++ [an]) w7 (fun _ => True) X (Hx.out.keep HKw7.out (fun b _ hb hm => hm.elim (fun e => Hp.out.xk (e ▸ hb)) (fun e => Hp.out.xn (e ▸ hb))) (fun _ _ h => h)) (IntsX.own (xs := got ++ [an]) (by have h := own_base Hown7.out; simpa [hst.out.len] using h) _ (fun _ _ => trivial)) (by simp [hst.out.len]; omega) (fun v hv => (List.mem_append.1 hv).elim (fun h => hst.out.rng v h) (fun h => by rw [List.mem_singleton.1 h]; exact ⟨n0, n1⟩)) (fun h => absurd HK4.out h))
               obtain ⟨an_, Han_⟩ : ∃ x, Hid (answerOf ⟨K, N, asks⟩ (got ++ [an]) = x) := ⟨_, Lib.hid rfl⟩
               rw [Han_.out] at hanz
               go_must (refine hanz.mono ?_; rintro e w8 ⟨rfl, hk8⟩); have Hbo8 := Lib.hid (hk8.blk Hb57.out id); have Hbr8 := Lib.hid (hk8.blk Hb47.out id); (try simp only [Act.put, List.setIfInBounds_toArray, List.set_cons_zero, List.set_cons_succ]))
            | ((with_reducible refine at_store (t := 3) (p := 91) rfl ?_); go_must (refine ev_store (cs' := #[.bool false, .int .i64 an_, .int .i64 m, .int .i64 0]) rfl rfl rfl rfl rfl rfl HI.out.2.1 HI.out.2.2 rfl Hbo8.out (Nat.le_of_ble_eq_true rfl) rfl ?_; intro w9 hb9 hk9); have q0 := (blk_cell hb9 0).trans rfl; have q1 := (blk_cell hb9 1).trans rfl; have q2 := (blk_cell hb9 2).trans rfl; have q3 := (blk_cell hb9 3).trans rfl; clear hb9; (try simp only [Act.put, List.setIfInBounds_toArray, List.set_cons_zero, List.set_cons_succ]))
            | ((with_reducible refine at_store (t := 80) (p := 4) rfl ?_); go_must (refine ev_store (cs' := #[.bool false, .int .i64 an_, .int .i64 m, .int .i64 0]) rfl rfl rfl rfl rfl rfl HI.out.1.1 HI.out.1.2 rfl (hk9.blk Hbr8.out (by have := Hg.out; show ¬ g4 = g5; omega)) (Nat.le_of_ble_eq_true rfl) rfl ?_; intro w10 hb10 hk10); (try simp only [Act.put, List.setIfInBounds_toArray, List.set_cons_zero, List.set_cons_succ]))
          )
          have q0 := (blk_cell hb10 0).trans rfl
          have q1 := (blk_cell hb10 1).trans rfl
          have q2 := (blk_cell hb10 2).trans rfl
          have q3 := (blk_cell hb10 3).trans rfl
          refine bodyPost_ret (v := .agg #[.bool false, .int .i64 an_, .int .i64 m, .int .i64 0]) (by rw [results_cell1 rfl]; go_simp) rfl ?_
          have hst' := hst.out
          rw [hb4t] at hst'
          have hRR := HRR.out
          rw [hb4t, hst'.stop_ hlt Hr.out Hae.out Han.out] at hRR
          simp only [Hm.out, Han_.out] at hRR
          rw [← hRR]
          have hkw10 : Keeps (fun x => x = kb ∨ x = nb) w w10 := ((HKw7.out.trans hk8 (fun _ _ h => h.elim)).own hk9 (by have := Hg.out; omega)).own hk10 (by have := Hg.out; omega)
          exact ⟨⟨false, rfl⟩, hkw10, Hp.out.mix hkw10 Hp7.out (((hk8.mono (M' := fun x => x = g5 ∨ x = g4) (fun _ _ h => h.elim)).into hk9 (.inl rfl)).into hk10 (.inr rfl)) (by have := Hg.out; show ¬ (kb = g5 ∨ kb = g4); omega) (by have := Hg.out; show ¬ (nb = g5 ∨ nb = g4); omega)⟩
        · have Hst4 := Lib.hid hst4
          have key : (K == 4) = false ∨ (K == 4) = true ∧ (an != 0) = false := by
            by_cases h4 : K = 4
            · right; refine ⟨by simpa using h4, ?_⟩
              have : an = 0 := by by_cases h : an = 0; exact h; exact absurd ⟨h4, h⟩ hst4
              simp [this]
            · left; simpa using h4
          have Hkey := Lib.hid key
          clear key hst4 hb4
          obtain ⟨b4', hb4⟩ : ∃ b, (K == 4) = b := ⟨_, rfl⟩
          have Hb4' := Lib.hid hb4
          cases b4' with
          | false =>
            go_wp2_with (first
              | (go_at_call 35; go_must (refine Hrun.out.mono ?_; rintro e w2 ⟨⟨b9, rfl⟩, hk2, hp2⟩); have Hp2 := Lib.hid hp2; clear hp2; (try simp only [Act.put, List.setIfInBounds_toArray, List.set_cons_zero, List.set_cons_succ]))
              | ((with_reducible refine at_dst (N := 9) rfl ?_); go_must (refine ev_alloc rfl rfl zero80 rfl ?_; intro g9 w3 hg9 hl9 hb9 hk3'); have Hb9 := Lib.hid hb9; clear hb9; (try simp only [Act.put, List.setIfInBounds_toArray, List.set_cons_zero, List.set_cons_succ]))
              | ((with_reducible refine at_store (t := 80) (p := 9) rfl ?_); go_must (refine ev_store (cs' := #[.bool b9, .int .i64 an, .int .i64 ac1, .int .i64 ae]) rfl rfl rfl rfl rfl rfl HI.out.1.1 HI.out.1.2 rfl Hb9.out (Nat.le_of_ble_eq_true rfl) rfl ?_; intro w4 hb94 hk4); have Hb94 := Lib.hid hb94; clear hb94
                 have e1 := (blk_cell Hb94.out 1).trans rfl
                 have e2 := (blk_cell Hb94.out 2).trans rfl
                 have e3 := (blk_cell Hb94.out 3).trans rfl
                 have lg5 : g5 < w3.heap.size := by have := Hg.out; have := hst.out.keep.size; have := hk2.size; have := hk3'.size; omega
                 have hb54 := hk4.blk (hk3'.blk (hk2.blk hst.out.out (by have := Hg.out; show ¬ (g5 = kb ∨ g5 = nb); omega)) id) (by have := Hg.out; have := hst.out.keep.size; have := hk2.size; show ¬ g5 = g9; omega)
                 have Hb54 := Lib.hid hb54
                 have d2 := (blk_cell hb54 2).trans rfl
                 clear hb54
                 (try simp only [Act.put, List.setIfInBounds_toArray, List.set_cons_zero, List.set_cons_succ]))
              | ((with_reducible refine at_dst (N := 35) rfl ?_); go_must (refine ev_min rfl rfl (p := c + ac1) (q := 1048576) rfl rfl (capM_min Hm.out) ?_); (try simp only [Act.put, List.setIfInBounds_toArray, List.set_cons_zero, List.set_cons_succ]))
              | ((with_reducible refine at_store (t := 3) (p := 36) rfl ?_); go_must (refine ev_store (cs' := #[.bool false, .int .i64 0, .int .i64 m, .int .i64 0]) rfl rfl rfl rfl rfl rfl HI.out.2.1 HI.out.2.2 rfl Hb54.out (Nat.le_of_ble_eq_true rfl) rfl ?_; intro w5 hb55 hk5); have Hb55 := Lib.hid hb55; clear hb55
                 have e1 := hk5.cell e1 (by have := Hg.out; have := hst.out.keep.size; have := hk2.size; show ¬ g9 = g5; omega)
                 have d2 := (blk_cell Hb55.out 2).trans rfl
                 have e3 := hk5.cell e3 (by have := Hg.out; have := hst.out.keep.size; have := hk2.size; show ¬ g9 = g5; omega)
                 (try simp only [Act.put, List.setIfInBounds_toArray, List.set_cons_zero, List.set_cons_succ]))
              | ((with_reducible refine at_dst (N := 48) rfl ?_); go_must (refine ev_slice (cs := #[.int .i64 an]) (t := 3) (n := 1) (c := 1) rfl (by first | (go_simp; done) | (go_simp; rfl)) ?_; intro g6 w6 hg6 hl6 hb6 hk6); have Hb6 := Lib.hid hb6; clear hb6
                 have hk36 : Keeps (fun x => x = kb ∨ x = nb ∨ x = g5) wr w6 := ((((hk2.mono (fun _ _ h => h.imp id .inl)).trans hk3' (fun _ _ h => h.elim)).own hk4 (by have := hk2.size; omega)).into hk5 (.inr (.inr rfl))).trans hk6 (fun _ _ h => h.elim)
                 have HK36 := Lib.hid hk36
                 clear hk36
                 (try simp only [Act.put, List.setIfInBounds_toArray, List.set_cons_zero, List.set_cons_succ]))
              | ((with_reducible refine at_dst (N := 49) rfl ?_); go_must (refine ev_append (W := w6) rfl rfl Tryd.underlying23 info3 rfl (by decide) (base := w1.heap.size) rfl (ownsRow_keep Hf.out HK36.out (fun b hb hm => by have := (Hof.out b hb); have := Hg.out; rcases hm with hm | hm | hm <;> omega)) (news := [.int .i64 an]) rfl rfl (fun _ => ⟨_, rfl, World.news_of_block Hb6.out⟩) (by simp [Value.oneCell']) (by omega) (by decide) (by have := hst.out.keep.size; have := HK36.out.size; omega) ?_; intro av7 w7 hown7 hk7 hr7 hf7); go_must (have Hown7 := Lib.hid hown7; have Hr7 := Lib.hid hr7; clear hown7 hf7 hr7); go_must (have e1 := hk7.cell (hk6.cell e1 id) (fun e => by have := (Hof.out g9 e.symm).2; have := hk2.size; have := hg9; omega))
                 have hnk : ∀ g, g < w1.heap.size → g ≠ kb → g ≠ nb → ¬ (some g = Value.ownBlock u6) ∧ (g ≠ g5 → ¬ (g = kb ∨ g = nb ∨ g = g5)) := fun g hg h1 h2 => ⟨fun e => by have := (Hof.out g e.symm).1; omega, fun h3 hm => hm.elim h1 (fun hm => hm.elim h2 h3)⟩
                 go_must (have hb37 := hk7.blk (HK36.out.blk Hb3r.out ((hnk g3 (by have := Hg.out; omega) (by have := Hg.out; omega) (by have := Hg.out; omega)).2 (by have := Hg.out; omega))) (hnk g3 (by have := Hg.out; omega) (by have := Hg.out; omega) (by have := Hg.out; omega)).1)
                 go_must (have hb47 := hk7.blk (HK36.out.blk Hb4r.out ((hnk g4 (by have := Hg.out; omega) (by have := Hg.out; omega) (by have := Hg.out; omega)).2 (by have := Hg.out; omega))) (hnk g4 (by have := Hg.out; omega) (by have := Hg.out; omega) (by have := Hg.out; omega)).1)
                 go_must (have hb57 := hk7.blk (hk6.blk Hb55.out id) (hnk g5 (by have := Hg.out; omega) (by have := Hg.out; omega) (by have := Hg.out; omega)).1)
                 have f0 := (blk_cell hb37 0).trans rfl
                 have f1 := (blk_cell hb37 1).trans rfl
                 have f2 := (blk_cell hb37 2).trans rfl
                 go_must (have hkw7 : Keeps (fun x => x = kb ∨ x = nb) w w7 := (HKw.out.trans HK36.out (fun i hi hm => by have := Hg.out; rcases hm with hm | hm | hm; exact .inl hm; exact .inr hm; omega)).trans hk7 (fun i hi e => by have := (Hof.out i e.symm).1; have := Hg.out; have := Hk01.out.size; omega))
                 go_must (have hp7 := Hp.out.mix hkw7 Hp2.out ((((hk3'.mono (M' := fun x => x = g5 ∨ some x = Value.ownBlock u6) (fun _ _ h => h.elim)).own hk4 hg9).into hk5 (.inl rfl)).trans ((hk6.mono (M' := fun x => some x = Value.ownBlock u6) (fun _ _ h => h.elim)).trans hk7 (fun _ _ h => h)) (fun _ _ h => .inr h)) (fun hm => by have := Hg.out; rcases hm with hm | hm; omega; have := (Hof.out kb hm.symm).1; omega) (fun hm => by have := Hg.out; rcases hm with hm | hm; omega; have := (Hof.out nb hm.symm).1; omega))
                 have HKw7 := Lib.hid hkw7
                 have Hp7 := Lib.hid hp7
                 have Hk37 := Lib.hid (show Keeps (fun x => (x = kb ∨ x = nb ∨ x = g5) ∨ some x = Value.ownBlock u6) wr w7 from (HK36.out.mono (fun _ _ h => .inl h)).trans hk7 (fun _ _ h => .inr h))
                 clear hkw7 hp7
                 have Hb37 := Lib.hid hb37
                 have Hb47 := Lib.hid hb47
                 have Hb57 := Lib.hid hb57
                 clear hb37 hb47 hb57 hnk
                 (try simp only [Act.put, List.setIfInBounds_toArray, List.set_cons_zero, List.set_cons_succ]))
            )
            refine ⟨⟨k + 1, got ++ [an], s1, m, by go_num, by omega, Lib.hid (hst.out.next hlt Hr.out Hae.out (fun h => by rw [hb4] at h; exact absurd h.1 (by decide)) ⟨n0, n1⟩ Hm.out ⟨m0, m1⟩ Hk37.out Hp7.out Hgk.out Hown7.out Hb57.out)⟩, by simp [intOf]; omega⟩
          | true =>
            have hanb : (an != 0) = false := by
              rcases Hkey.out with h | h
              · rw [hb4] at h; cases h
              · exact h.2
            go_wp2_with (first
              | (go_at_call 35; go_must (refine Hrun.out.mono ?_; rintro e w2 ⟨⟨b9, rfl⟩, hk2, hp2⟩); have Hp2 := Lib.hid hp2; clear hp2; (try simp only [Act.put, List.setIfInBounds_toArray, List.set_cons_zero, List.set_cons_succ]))
              | ((with_reducible refine at_dst (N := 9) rfl ?_); go_must (refine ev_alloc rfl rfl zero80 rfl ?_; intro g9 w3 hg9 hl9 hb9 hk3'); have Hb9 := Lib.hid hb9; clear hb9; (try simp only [Act.put, List.setIfInBounds_toArray, List.set_cons_zero, List.set_cons_succ]))
              | ((with_reducible refine at_store (t := 80) (p := 9) rfl ?_); go_must (refine ev_store (cs' := #[.bool b9, .int .i64 an, .int .i64 ac1, .int .i64 ae]) rfl rfl rfl rfl rfl rfl HI.out.1.1 HI.out.1.2 rfl Hb9.out (Nat.le_of_ble_eq_true rfl) rfl ?_; intro w4 hb94 hk4); have Hb94 := Lib.hid hb94; clear hb94
                 have e1 := (blk_cell Hb94.out 1).trans rfl
                 have e2 := (blk_cell Hb94.out 2).trans rfl
                 have e3 := (blk_cell Hb94.out 3).trans rfl
                 have lg5 : g5 < w3.heap.size := by have := Hg.out; have := hst.out.keep.size; have := hk2.size; have := hk3'.size; omega
                 have hb54 := hk4.blk (hk3'.blk (hk2.blk hst.out.out (by have := Hg.out; show ¬ (g5 = kb ∨ g5 = nb); omega)) id) (by have := Hg.out; have := hst.out.keep.size; have := hk2.size; show ¬ g5 = g9; omega)
                 have Hb54 := Lib.hid hb54
                 have d2 := (blk_cell hb54 2).trans rfl
                 clear hb54
                 (try simp only [Act.put, List.setIfInBounds_toArray, List.set_cons_zero, List.set_cons_succ]))
              | ((with_reducible refine at_dst (N := 35) rfl ?_); go_must (refine ev_min rfl rfl (p := c + ac1) (q := 1048576) rfl rfl (capM_min Hm.out) ?_); (try simp only [Act.put, List.setIfInBounds_toArray, List.set_cons_zero, List.set_cons_succ]))
              | ((with_reducible refine at_store (t := 3) (p := 36) rfl ?_); go_must (refine ev_store (cs' := #[.bool false, .int .i64 0, .int .i64 m, .int .i64 0]) rfl rfl rfl rfl rfl rfl HI.out.2.1 HI.out.2.2 rfl Hb54.out (Nat.le_of_ble_eq_true rfl) rfl ?_; intro w5 hb55 hk5); have Hb55 := Lib.hid hb55; clear hb55
                 have e1 := hk5.cell e1 (by have := Hg.out; have := hst.out.keep.size; have := hk2.size; show ¬ g9 = g5; omega)
                 have d2 := (blk_cell Hb55.out 2).trans rfl
                 have e3 := hk5.cell e3 (by have := Hg.out; have := hst.out.keep.size; have := hk2.size; show ¬ g9 = g5; omega)
                 (try simp only [Act.put, List.setIfInBounds_toArray, List.set_cons_zero, List.set_cons_succ]))
              | ((with_reducible refine at_dst (N := 48) rfl ?_); go_must (refine ev_slice (cs := #[.int .i64 an]) (t := 3) (n := 1) (c := 1) rfl (by first | (go_simp; done) | (go_simp; rfl)) ?_; intro g6 w6 hg6 hl6 hb6 hk6); have Hb6 := Lib.hid hb6; clear hb6
                 have hk36 : Keeps (fun x => x = kb ∨ x = nb ∨ x = g5) wr w6 := ((((hk2.mono (fun _ _ h => h.imp id .inl)).trans hk3' (fun _ _ h => h.elim)).own hk4 (by have := hk2.size; omega)).into hk5 (.inr (.inr rfl))).trans hk6 (fun _ _ h => h.elim)
                 have HK36 := Lib.hid hk36
                 clear hk36
                 (try simp only [Act.put, List.setIfInBounds_toArray, List.set_cons_zero, List.set_cons_succ]))
              | ((with_reducible refine at_dst (N := 49) rfl ?_); go_must (refine ev_append (W := w6) rfl rfl Tryd.underlying23 info3 rfl (by decide) (base := w1.heap.size) rfl (ownsRow_keep Hf.out HK36.out (fun b hb hm => by have := (Hof.out b hb); have := Hg.out; rcases hm with hm | hm | hm <;> omega)) (news := [.int .i64 an]) rfl rfl (fun _ => ⟨_, rfl, World.news_of_block Hb6.out⟩) (by simp [Value.oneCell']) (by omega) (by decide) (by have := hst.out.keep.size; have := HK36.out.size; omega) ?_; intro av7 w7 hown7 hk7 hr7 hf7); go_must (have Hown7 := Lib.hid hown7; have Hr7 := Lib.hid hr7; clear hown7 hf7 hr7); go_must (have e1 := hk7.cell (hk6.cell e1 id) (fun e => by have := (Hof.out g9 e.symm).2; have := hk2.size; have := hg9; omega))
                 have hnk : ∀ g, g < w1.heap.size → g ≠ kb → g ≠ nb → ¬ (some g = Value.ownBlock u6) ∧ (g ≠ g5 → ¬ (g = kb ∨ g = nb ∨ g = g5)) := fun g hg h1 h2 => ⟨fun e => by have := (Hof.out g e.symm).1; omega, fun h3 hm => hm.elim h1 (fun hm => hm.elim h2 h3)⟩
                 go_must (have hb37 := hk7.blk (HK36.out.blk Hb3r.out ((hnk g3 (by have := Hg.out; omega) (by have := Hg.out; omega) (by have := Hg.out; omega)).2 (by have := Hg.out; omega))) (hnk g3 (by have := Hg.out; omega) (by have := Hg.out; omega) (by have := Hg.out; omega)).1)
                 go_must (have hb47 := hk7.blk (HK36.out.blk Hb4r.out ((hnk g4 (by have := Hg.out; omega) (by have := Hg.out; omega) (by have := Hg.out; omega)).2 (by have := Hg.out; omega))) (hnk g4 (by have := Hg.out; omega) (by have := Hg.out; omega) (by have := Hg.out; omega)).1)
                 go_must (have hb57 := hk7.blk (hk6.blk Hb55.out id) (hnk g5 (by have := Hg.out; omega) (by have := Hg.out; omega) (by have := Hg.out; omega)).1)
                 have f0 := (blk_cell hb37 0).trans rfl
                 have f1 := (blk_cell hb37 1).trans rfl
                 have f2 := (blk_cell hb37 2).trans rfl
                 go_must (have hkw7 : Keeps (fun x => x = kb ∨ x = nb) w w7 := (HKw.out.trans HK36.out (fun i hi hm => by have := Hg.out; rcases hm with hm | hm | hm; exact .inl hm; exact .inr hm; omega)).trans hk7 (fun i hi e => by have := (Hof.out i e.symm).1; have := Hg.out; have := Hk01.out.size; omega))
                 go_must (have hp7 := Hp.out.mix hkw7 Hp2.out ((((hk3'.mono (M' := fun x => x = g5 ∨ some x = Value.ownBlock u6) (fun _ _ h => h.elim)).own hk4 hg9).into hk5 (.inl rfl)).trans ((hk6.mono (M' := fun x => some x = Value.ownBlock u6) (fun _ _ h => h.elim)).trans hk7 (fun _ _ h => h)) (fun _ _ h => .inr h)) (fun hm => by have := Hg.out; rcases hm with hm | hm; omega; have := (Hof.out kb hm.symm).1; omega) (fun hm => by have := Hg.out; rcases hm with hm | hm; omega; have := (Hof.out nb hm.symm).1; omega))
                 have HKw7 := Lib.hid hkw7
                 have Hp7 := Lib.hid hp7
                 have Hk37 := Lib.hid (show Keeps (fun x => (x = kb ∨ x = nb ∨ x = g5) ∨ some x = Value.ownBlock u6) wr w7 from (HK36.out.mono (fun _ _ h => .inl h)).trans hk7 (fun _ _ h => .inr h))
                 clear hkw7 hp7
                 have Hb37 := Lib.hid hb37
                 have Hb47 := Lib.hid hb47
                 have Hb57 := Lib.hid hb57
                 clear hb37 hb47 hb57 hnk
                 (try simp only [Act.put, List.setIfInBounds_toArray, List.set_cons_zero, List.set_cons_succ]))
            )
            refine ⟨⟨k + 1, got ++ [an], s1, m, by go_num, by omega, Lib.hid (hst.out.next hlt Hr.out Hae.out (fun h => by have h2 := h.2; simp at h2 hanb; exact h2 hanb) ⟨n0, n1⟩ Hm.out ⟨m0, m1⟩ Hk37.out Hp7.out Hgk.out Hown7.out Hb57.out)⟩, by simp [intOf]; omega⟩
      · have haeb : (ae != 0) = true := by simp [hae]
        have Hae := Lib.hid hae
        clear hae
        go_wp2_with (first
          | (go_at_call 35; go_must (refine Hrun.out.mono ?_; rintro e w2 ⟨⟨b9, rfl⟩, hk2, hp2⟩); have Hp2 := Lib.hid hp2; clear hp2; (try simp only [Act.put, List.setIfInBounds_toArray, List.set_cons_zero, List.set_cons_succ]))
          | ((with_reducible refine at_dst (N := 9) rfl ?_); go_must (refine ev_alloc rfl rfl zero80 rfl ?_; intro g9 w3 hg9 hl9 hb9 hk3'); have Hb9 := Lib.hid hb9; clear hb9; (try simp only [Act.put, List.setIfInBounds_toArray, List.set_cons_zero, List.set_cons_succ]))
          | ((with_reducible refine at_store (t := 80) (p := 9) rfl ?_); go_must (refine ev_store (cs' := #[.bool b9, .int .i64 an, .int .i64 ac1, .int .i64 ae]) rfl rfl rfl rfl rfl rfl HI.out.1.1 HI.out.1.2 rfl Hb9.out (Nat.le_of_ble_eq_true rfl) rfl ?_; intro w4 hb94 hk4); have Hb94 := Lib.hid hb94; clear hb94
             have e1 := (blk_cell Hb94.out 1).trans rfl
             have e2 := (blk_cell Hb94.out 2).trans rfl
             have e3 := (blk_cell Hb94.out 3).trans rfl
             have lg5 : g5 < w3.heap.size := by have := Hg.out; have := hst.out.keep.size; have := hk2.size; have := hk3'.size; omega
             have hb54 := hk4.blk (hk3'.blk (hk2.blk hst.out.out (by have := Hg.out; show ¬ (g5 = kb ∨ g5 = nb); omega)) id) (by have := Hg.out; have := hst.out.keep.size; have := hk2.size; show ¬ g5 = g9; omega)
             have Hb54 := Lib.hid hb54
             have d2 := (blk_cell hb54 2).trans rfl
             clear hb54
             (try simp only [Act.put, List.setIfInBounds_toArray, List.set_cons_zero, List.set_cons_succ]))
          | ((with_reducible refine at_dst (N := 35) rfl ?_); go_must (refine ev_min rfl rfl (p := c + ac1) (q := 1048576) rfl rfl (capM_min Hm.out) ?_); (try simp only [Act.put, List.setIfInBounds_toArray, List.set_cons_zero, List.set_cons_succ]))
          | ((with_reducible refine at_store (t := 3) (p := 36) rfl ?_); go_must (refine ev_store (cs' := #[.bool false, .int .i64 0, .int .i64 m, .int .i64 0]) rfl rfl rfl rfl rfl rfl HI.out.2.1 HI.out.2.2 rfl Hb54.out (Nat.le_of_ble_eq_true rfl) rfl ?_; intro w5 hb55 hk5); have Hb55 := Lib.hid hb55; clear hb55
             have e1 := hk5.cell e1 (by have := Hg.out; have := hst.out.keep.size; have := hk2.size; show ¬ g9 = g5; omega)
             have d2 := (blk_cell Hb55.out 2).trans rfl
             have e3 := hk5.cell e3 (by have := Hg.out; have := hst.out.keep.size; have := hk2.size; show ¬ g9 = g5; omega)
             (try simp only [Act.put, List.setIfInBounds_toArray, List.set_cons_zero, List.set_cons_succ]))
          | ((with_reducible refine at_store (t := 80) (p := 4) rfl ?_)
             go_must (refine ev_store (cs' := #[.bool false, .int .i64 0, .int .i64 m, .int .i64 ae]) rfl rfl rfl rfl rfl rfl HI.out.1.1 HI.out.1.2 rfl (hk5.blk (hk4.blk (hk3'.blk (hk2.blk Hb4r.out (by have := Hg.out; show ¬ (g4 = kb ∨ g4 = nb); omega)) id) (by have := Hg.out; have := hst.out.keep.size; have := hk2.size; show ¬ g4 = g9; omega)) (by have := Hg.out; show ¬ g4 = g5; omega)) (Nat.le_of_ble_eq_true rfl) rfl ?_; intro w6 hb6 hk6); (try simp only [Act.put, List.setIfInBounds_toArray, List.set_cons_zero, List.set_cons_succ])))
        have q0 := (blk_cell hb6 0).trans rfl
        have q1 := (blk_cell hb6 1).trans rfl
        have q2 := (blk_cell hb6 2).trans rfl
        have q3 := (blk_cell hb6 3).trans rfl
        refine bodyPost_ret (v := .agg #[.bool false, .int .i64 0, .int .i64 m, .int .i64 ae]) (by rw [results_cell1 rfl]; go_simp) rfl ?_
        have hRR := HRR.out
        rw [hst.out.err hlt Hr.out Hae.out] at hRR
        simp only [Hm.out] at hRR
        rw [← hRR]
        have hkw6 : Keeps (fun x => x = kb ∨ x = nb) w w6 := ((((HKw.out.trans hk2 (fun _ _ h => h)).trans hk3' (fun _ _ h => h.elim)).own hk4 (by have := HKw.out.size; have := hk2.size; omega)).own hk5 (by have := Hg.out; omega)).own hk6 (by have := Hg.out; omega)
        exact ⟨⟨false, rfl⟩, hkw6, Hp.out.mix hkw6 Hp2.out ((((hk3'.mono (M' := fun x => x = g5 ∨ x = g4) (fun _ _ h => h.elim)).own hk4 hg9).into hk5 (.inl rfl)).into hk6 (.inr rfl)) (by have := Hg.out; show ¬ (kb = g5 ∨ kb = g4); omega) (by have := Hg.out; show ¬ (nb = g5 ∨ nb = g4); omega)⟩
    · have hk' : k = asks.length := by omega
      subst hk'
      have f0 := (blk_cell hb3r 0).trans rfl
      have f1 := (blk_cell hb3r 1).trans rfl
      have f2 := (blk_cell hb3r 2).trans rfl
      clear hb3r
      go_wp2_with (first
        | (go_at_call 64
           go_must (have hanz := Hans.out _ _ got wr (fun _ => True) X (Hx.out.keep HKw.out (fun b _ hb hm => hm.elim (fun e => Hp.out.xk (e ▸ hb)) (fun e => Hp.out.xn (e ▸ hb))) (fun _ _ h => h)) (IntsX.own (xs := got) (by have h := own_base hst.out.own; simpa [hst.out.len] using h) _ (fun _ _ => trivial)) (by rw [hst.out.len]; omega) hst.out.rng (fun _ => hst.out.len))
           obtain ⟨an_, Han_⟩ : ∃ x, Hid (answerOf ⟨K, N, asks⟩ got = x) := ⟨_, Lib.hid rfl⟩
           rw [Han_.out] at hanz
           go_must (refine hanz.mono ?_; rintro e w8 ⟨rfl, hk8⟩); have Hbo8 := Lib.hid (hk8.blk hst.out.out id); have Hbr8 := Lib.hid (hk8.blk Hb4r.out id); (try simp only [Act.put, List.setIfInBounds_toArray, List.set_cons_zero, List.set_cons_succ]))
        | ((with_reducible refine at_store (t := 3) (p := 91) rfl ?_); go_must (refine ev_store (cs' := #[.bool false, .int .i64 an_, .int .i64 c, .int .i64 0]) rfl rfl rfl rfl rfl rfl HI.out.2.1 HI.out.2.2 rfl Hbo8.out (Nat.le_of_ble_eq_true rfl) rfl ?_; intro w9 hb9 hk9); have q0 := (blk_cell hb9 0).trans rfl; have q1 := (blk_cell hb9 1).trans rfl; have q2 := (blk_cell hb9 2).trans rfl; have q3 := (blk_cell hb9 3).trans rfl; clear hb9; (try simp only [Act.put, List.setIfInBounds_toArray, List.set_cons_zero, List.set_cons_succ]))
        | ((with_reducible refine at_store (t := 80) (p := 4) rfl ?_); go_must (refine ev_store (cs' := #[.bool false, .int .i64 an_, .int .i64 c, .int .i64 0]) rfl rfl rfl rfl rfl rfl HI.out.1.1 HI.out.1.2 rfl (hk9.blk Hbr8.out (by have := Hg.out; show ¬ g4 = g5; omega)) (Nat.le_of_ble_eq_true rfl) rfl ?_; intro w10 hb10 hk10); (try simp only [Act.put, List.setIfInBounds_toArray, List.set_cons_zero, List.set_cons_succ]))
      )
      have q0 := (blk_cell hb10 0).trans rfl
      have q1 := (blk_cell hb10 1).trans rfl
      have q2 := (blk_cell hb10 2).trans rfl
      have q3 := (blk_cell hb10 3).trans rfl
      refine bodyPost_ret (v := .agg #[.bool false, .int .i64 an_, .int .i64 c, .int .i64 0]) (by rw [results_cell1 rfl]; go_simp) rfl ?_
      have hRR := HRR.out
      rw [hst.out.end_] at hRR
      simp only [Han_.out] at hRR
      rw [← hRR]
      have hkw10 : Keeps (fun x => x = kb ∨ x = nb) w w10 := ((HKw.out.trans hk8 (fun _ _ h => h.elim)).own hk9 (by have := Hg.out; omega)).own hk10 (by have := Hg.out; omega)
      exact ⟨⟨false, rfl⟩, hkw10, Hp.out.mix hkw10 hst.out.pa (((hk8.mono (M' := fun x => x = g5 ∨ x = g4) (fun _ _ h => h.elim)).into hk9 (.inl rfl)).into hk10 (.inr rfl)) (by have := Hg.out; show ¬ (kb = g5 ∨ kb = g4); omega) (by have := Hg.out; show ¬ (nb = g5 ∨ nb = g4); omega)⟩
end Go.Proofs.QW
