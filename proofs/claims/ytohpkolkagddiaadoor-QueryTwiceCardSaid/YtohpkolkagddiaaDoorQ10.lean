/-
  Ask whole, in memory: nested askings by depth, the deferred function that turns a stop into an error, and Ask. No condition.
-/
import Derived.Test.YtohpkolkagddiaaDoorQ9
import Derived.Defers
import Derived.Recover
namespace Go.Proofs.QW
open Go.RowKit Go.Proofs.KL Go.Proofs.QM
set_option maxRecDepth 100000
set_option linter.unusedSimpArgs false
set_option linter.unusedVariables false

def onlyNormal (Q : Exit → Act → World → Prop) : Exit → Act → World → Prop
  | .normal, a, w => Q .normal a w
  | _, _, _ => False
/-- The same where the function defers: the region does not end by a panic. -/
theorem wp_region_perm_np {P : Program} {Q : Exit → Act → World → Prop} {id : Nat} {l : List Oper} {a : Act} {w : World} (π : List (Nat × Bool)) (S : World → Prop) (hm : P.follows .mixedOrders = true) (hs : Region.noSelect l.toArray = true)
    (hB : permB .any l.toArray π (Array.replicate l.toArray.size false) = true) (hl : π.length ≤ l.toArray.size)
    (hS : S w.drew) (h : wpPerm P l.toArray (onlyNormal Q) S π a w.drew) : (Code.region id l.toArray true).wp P Q a w :=
  Code.wp_mono (fun e a w h => by cases e <;> first | exact h | exact h.elim) (wp_region_perm (Q := onlyNormal Q) π S hm hs hB hl (fun _ _ _ _ _ h => h.elim) hS h)
theorem perm_nil_np {P : Program} {ops : Array Oper} {Q : Exit → Act → World → Prop} {S : World → Prop} {a : Act} {w : World} (h : Q .normal a w) : wpPerm P ops (onlyNormal Q) S [] a w := h
theorem info25 : ∃ i, Tryd.prog.info? 25 = some i ∧ i.size = 1 := by
  have h : (Tryd.prog.info? 25).map (·.size) = some 1 := by kernel_rfl
  obtain ⟨i, hi, hs⟩ := Option.map_eq_some_iff.1 h
  exact ⟨i, hi, hs⟩
/-- ASK COMES TO THE MODEL'S, however deep. -/
theorem ask_all {E : Env} (hE : EnvOk E) : ∀ (f : Nat) (on : List Int), E.rules.length + 1 ≤ f + on.length → AskOK E on (askF E f on)
  | 0, on, h => fun w X ab eb ib mb ob s wv q hc ho hi hq => by
    have := hi.onlen
    omega
  | f + 1, on, h => fun w X ab eb ib mb ob s wv q hc ho hi hq => by
    by_cases hk : (E.rule q).kind = 1
    · have := ask_input hE w X ab eb ib mb ob s wv q hc ho hq hk
      unfold askF
      rw [if_pos hk]
      exact this
    · exact ask_rest hE w X ab eb ib mb ob s wv q (ask_all hE f (q :: on) (by simp; omega)) hc ho hi hq hk

theorem Ask_idle (p q r t : Addr) (w : World) :
    CallsD Tryd.prog 39 #[.pointer (some p), .pointer (some q), .pointer (some r), .pointer (some t)] .returning w fun e u' w' => e = .returned (.tuple #[]) ∧ u' = .returning ∧ w' = w := by
  have hnn : ∀ w, (binOp .neq 20 .nilIface .nilIface).run Tryd.prog w = .ok (.bool false) w := fun w => by kernel_rfl
  refine callsD_of_wpS Tryd.func39 rfl fun c₀ cs hu => ?_
  apply wpS_seq
  apply wpS_region
  simp [wpOpsS, go_sem, recoverD, hu, hnn, Tryd.ntmps39, Exit.thenS]
  apply wpS_seq
  apply wpS_region
  simp [wpOpsS, go_sem, hnn, Exit.thenS]
  refine wpS_cond (t := false) (by simp [Act.eval, Array.replicate]) ?_
  simp only [Bool.false_eq_true, if_false]
  refine wpS_of_wp (wp_skip ?_)
  cases c₀
  simp_all [bodyPostS, results, Tryd.results39]
theorem neq_ended (c : Int) (w : World) : (binOp .neq 20 (.iface 90 (.int .i64 c)) .nilIface).run Tryd.prog w = .ok (.bool true) w := by kernel_rfl
theorem assert_ended (c : Int) (w : World) : (Instr.typeAssert (.iface 90 (.int .i64 c)) 20 90 true).run Tryd.prog w = .ok (.tuple #[.int .i64 c, .bool true]) w := by
  have h := Tryd.underlying90
  first | kernel_rfl | (simp [Instr.typeAssert, run_underlying h])
set_option maxHeartbeats 2000000 in
theorem Ask_catch (g10 g6 g7 g8 ab : Nat) (wv : Value) (A : Option Addr) (n cp : Nat) (c : Int) (w : World) (x6 x7 x8 : Value)
    (h10 : w.cell? ⟨g10, 0, none⟩ = some (.pointer (some ⟨ab, 0, none⟩))) (hab : w.cell? ⟨ab, 2, none⟩ = some (.slice A n cp))
    (h6 : w.heap[g6]? = some (.cells #[x6] 3 (0, 0))) (h7 : w.heap[g7]? = some (.cells #[x7] 23 (0, 0))) (h8 : w.heap[g8]? = some (.cells #[x8] 25 (0, 0))) (n67 : g6 ≠ g7) (n68 : g6 ≠ g8) (n78 : g7 ≠ g8) :
    CallsD Tryd.prog 39 #[.pointer (some ⟨g10, 0, none⟩), .pointer (some ⟨g6, 0, none⟩), .pointer (some ⟨g7, 0, none⟩), .pointer (some ⟨g8, 0, none⟩)] (.panicking [{ v := .iface 90 (.int .i64 c), recovered := false }]) w fun e u' w' =>
      e = .returned (.tuple #[]) ∧ u' = .panicking [{ v := .iface 90 (.int .i64 c), recovered := true }] ∧ Keeps (fun k => k = g6 ∨ k = g7 ∨ k = g8) w w' ∧
        w'.heap[g6]? = some (.cells #[.int .i64 0] 3 (0, 0)) ∧ w'.heap[g7]? = some (.cells #[.slice A n cp] 23 (0, 0)) ∧ w'.heap[g8]? = some (.cells #[.int .i64 c] 25 (0, 0)) := by
  obtain ⟨i3, hi3, hs3⟩ := infoS3
  obtain ⟨i23, hi23, hs23⟩ := info23
  obtain ⟨i25, hi25, hs25⟩ := info25
  have H6 := Lib.hid h6
  have H7 := Lib.hid h7
  have H8 := Lib.hid h8
  have hi := Lib.hid (And.intro (And.intro hi3 hs3) (And.intro (And.intro hi23 hs23) (And.intro hi25 hs25)))
  clear h6 h7 h8 hi3 hs3 hi23 hs23 hi25 hs25
  refine callsD_of_wpS Tryd.func39 rfl fun c₀ cs hu => ?_
  apply wpS_seq
  apply wpS_region
  simp [wpOpsS, go_sem, neq_ended, assert_ended, recoverD, hu, Tryd.ntmps39, Exit.thenS]
  apply wpS_seq
  apply wpS_region
  simp [wpOpsS, go_sem, neq_ended, assert_ended, Exit.thenS]
  refine wpS_cond (t := true) (by simp [Act.eval, Array.replicate]) ?_
  simp only [if_true]
  apply wpS_seq
  apply wpS_region
  simp [wpOpsS, go_sem, neq_ended, assert_ended, Exit.thenS]
  apply wpS_seq
  apply wpS_seq
  apply wpS_region
  simp [wpOpsS, go_sem, neq_ended, assert_ended, Exit.thenS]
  refine wpS_cond (t := false) (by simp [Act.eval, Array.replicate]) ?_
  simp only [Bool.false_eq_true, if_false]
  refine wpS_of_wp (wp_skip ?_)
  simp only [Exit.thenS]
  refine wpS_of_wp ?_
  simp only [Array.replicate_succ, Array.replicate_zero, List.push_toArray, List.append_toArray, List.nil_append, List.cons_append, List.setIfInBounds_toArray, List.set_cons_zero, List.set_cons_succ]
  go_wp2_with (first
    | ((with_reducible refine at_store (t := 3) rfl ?_); go_must (refine ev_store (cs' := #[.int .i64 0]) rfl rfl rfl rfl rfl rfl hi.out.1.1 hi.out.1.2 rfl H6.out (Nat.le_of_ble_eq_true rfl) rfl ?_; intro w1 hb1 hk1); (try simp only [Act.put, List.setIfInBounds_toArray, List.set_cons_zero, List.set_cons_succ]))
    | ((with_reducible refine at_store (t := 23) rfl ?_); go_must (refine ev_store (cs' := #[.slice A n cp]) rfl rfl rfl rfl rfl rfl hi.out.2.1.1 hi.out.2.1.2 rfl (hk1.blk H7.out n67.symm) (Nat.le_of_ble_eq_true rfl) rfl ?_; intro w2 hb2 hk2); (try simp only [Act.put, List.setIfInBounds_toArray, List.set_cons_zero, List.set_cons_succ]))
    | ((with_reducible refine at_store (t := 25) rfl ?_); go_must (refine ev_store (cs' := #[.int .i64 c]) rfl rfl rfl rfl rfl rfl hi.out.2.2.1 hi.out.2.2.2 rfl (hk2.blk (hk1.blk H8.out n68.symm) n78.symm) (Nat.le_of_ble_eq_true rfl) rfl ?_; intro w3 hb3 hk3); (try simp only [Act.put, List.setIfInBounds_toArray, List.set_cons_zero, List.set_cons_succ])))
  exact ⟨rfl, _, rfl, _, by simp [results, Tryd.results39], rfl, rfl, ((hk1.mono (M' := fun k => k = g6 ∨ k = g7 ∨ k = g8) (fun _ _ e => .inl e)).trans hk2 (fun _ _ e => .inr (.inl e))).trans hk3 (fun _ _ e => .inr (.inr e)), hk3.blk (hk2.blk hb1 n67) n68, hk3.blk hb2 n78, hb3⟩

/-- What Ask comes to. -/
def AskEnd (w : World) (X : Nat → Prop) (eb ib mb : Nat) (E : Env) (r : PS × Except Int (Int × Int)) (e : Ending) (w' : World) : Prop :=
  ∃ X' wl, e = .returned (.tuple #[.int .i64 (match r.2 with | .ok x => x.1 | .error _ => 0), wl, .int .i64 (match r.2 with | .ok _ => 0 | .error c => c)]) ∧ (∀ b, b < w.heap.size → (X' b ↔ X b)) ∧ (∀ k, X' k → k < w'.heap.size) ∧ Keeps (· = mb) w w' ∧ EngAt w' X' eb ib mb E r.1.ans ∧
    w'.ownsRow 0 3 1 wl r.1.done.length (r.1.done.map (Value.int .i64)) ∧ ∀ b, wl.ownBlock = some b → w.heap.size ≤ b ∧ ¬ X' b
theorem AskEnd.of {w w7 w8 w9 : World} {X X' : Nat → Prop} {ab eb ib mb ob : Nat} {E : Env} {s1 : PS} {wv' : Value} {M : Nat → Prop} {r : PS × Except Int (Int × Int)} {e : Ending} (hxl : ∀ k, X k → k < w.heap.size) (HK : Keeps Nob w w7) (hab : w.heap.size ≤ ab) (hob : w.heap.size ≤ ob)
    (hp : AskPost w7 X ab eb ib mb ob E (.slice none 0 0) s1 w8 X' wv') (hk : Keeps M w8 w9) (hM : ∀ k, M k → w.heap.size ≤ k ∧ k < w7.heap.size) (leb : eb < w.heap.size) (lib : ib < w.heap.size) (lmb : mb < w.heap.size) (hr : r.1 = s1)
    (he : e = .returned (.tuple #[.int .i64 (match r.2 with | .ok x => x.1 | .error _ => 0), wv', .int .i64 (match r.2 with | .ok _ => 0 | .error c => c)])) : AskEnd w X eb ib mb E r e w9 := by
  have hs := HK.size
  have hrow : ∀ b, wv'.ownBlock = some b → w7.heap.size ≤ b := fun b hb => by
    rcases hp.row with h | ⟨b', h, hl⟩
    · rw [h] at hb; cases hb
    · rw [h] at hb; injection hb with hb; omega
  refine ⟨X', wv', he, fun b hb => hp.xx b (by omega), fun k hx => Nat.lt_of_lt_of_le (hp.core.xl k hx) hk.size, ((HK.mono (fun _ _ h => h.elim)).trans hp.keep (fun i hi hm => ?_)).trans hk (fun i hi hm => absurd hi (by have := hM i hm; omega)), ?_, ?_, fun b hb => ⟨by have := hrow b hb; omega, hp.core.xw b hb⟩⟩
  · rcases hm with hm | hm | hm | hm
    · omega
    · omega
    · exact hm
    · cases hm
  · rw [hr]
    refine hp.core.eng.keep hk (fun h => by have := hM _ h; omega) (fun h => by have := hM _ h; omega) (fun h => by have := hM _ h; omega) (fun b _ hx hm => ?_) (fun _ _ => Iff.rfl)
    have h1 := hM b hm
    have := hxl b ((hp.xx b h1.2).1 hx)
    omega
  · rw [hr]
    exact ownsRow_keep hp.core.own hk (fun b hb hm => by have := hM b hm; have := hrow b hb; omega)
theorem zero23 : (Tryd.prog.info? 23).map (·.zero) = some (some (.slice none 0 0)) := by kernel_rfl
theorem zero25 : (Tryd.prog.info? 25).map (·.zero) = some (some (.int .i64 0)) := by kernel_rfl
theorem zero86 : (Tryd.prog.info? 86).map (·.zero) = some (some (.pointer none)) := by kernel_rfl
theorem info86 : ∃ i, Tryd.prog.info? 86 = some i ∧ i.size = 1 := by
  have h : (Tryd.prog.info? 86).map (·.size) = some 1 := by kernel_rfl
  obtain ⟨i, hi, hs⟩ := Option.map_eq_some_iff.1 h
  exact ⟨i, hi, hs⟩
theorem results_cells3 {fn : Func} {p q r : Tmp} {t u v : TypeId} (h : fn.results = #[.cell p t, .cell q u, .cell r v]) (tmps : Array Value) {P : Program} (w : World) {x y z : Value} {a b c : Addr} (ha : tmps[p]?.getD undef = .pointer (some a)) (hb : tmps[q]?.getD undef = .pointer (some b)) (hc : tmps[r]?.getD undef = .pointer (some c))
    (hp : (loadVar t a).run P w = .ok x w) (hq : (loadVar u b).run P w = .ok y w) (hr : (loadVar v c).run P w = .ok z w) :
    (results fn tmps).run P w = .ok (.tuple #[x, y, z]) w := by
  have e : ∀ (a : Addr) (w : World), (asAddr (.pointer (some a))).run P w = .ok a w := fun _ _ => rfl
  simp [results, h, ha, hb, hc, e, hp, hq, hr, Result.andThen]
set_option maxHeartbeats 2000000 in
theorem Ask_any {E : Env} (hE : EnvOk E) (w : World) (X : Nat → Prop) (eb ib mb : Nat) (ans : List (Option KeptR)) (q : Int) (he : EngAt w X eb ib mb E ans) (hxl : ∀ k, X k → k < w.heap.size)
    (hi : PInv E [] ⟨ans, []⟩) (hq : InQ E q) :
    Calls Tryd.prog 18 #[.pointer (some ⟨eb, 0, none⟩), .int .i64 q, .int .i64 E.most] w (AskEnd w X eb ib mb E (askF E (E.rules.length + 1) [] ⟨ans, []⟩ q)) := by
  have hrun0 := ask_all hE (E.rules.length + 1) [] (by simp)
  have hgood := askF_good hE (E.rules.length + 1) [] ⟨ans, []⟩ q hi hq
  generalize askF E (E.rules.length + 1) [] = ask at *
  obtain ⟨A, cc, cc', b0, b1, b2, b3, hrx⟩ := he.cells
  obtain ⟨i3, hi3, hs3⟩ := infoS3
  obtain ⟨i23, hi23, hs23⟩ := info23
  obtain ⟨i25, hi25, hs25⟩ := info25
  obtain ⟨i85, hi85, hs85⟩ := info85
  obtain ⟨i86, hi86, hs86⟩ := info86
  have hE0 : isErr E.rules.length q = 0 := if_neg (by have := hq.1; have := hq.2; omega)
  have h200 := hE.len
  have hm0 : ¬ E.most < 0 := by have := hE.most0; omega
  have leb := World.block_lt_of_cell? _ _ b0
  have lmb : mb < w.heap.size := by obtain ⟨es, c, hb, _⟩ := he.ans; exact blk_lt hb
  have lib : ib < w.heap.size := by obtain ⟨cs, hb, _⟩ := he.inp; exact blk_lt hb
  dsimp only at leb
  have HI := Lib.hid (And.intro (And.intro hi3 hs3) (And.intro (And.intro hi23 hs23) (And.intro (And.intro hi25 hs25) (And.intro (And.intro hi85 hs85) (And.intro hi86 hs86)))))
  have HRun := Lib.hid hrun0
  have HGood := Lib.hid hgood
  have He := Lib.hid he
  have Hxl := Lib.hid hxl
  have Hi := Lib.hid hi
  have Hq := Lib.hid hq
  have HE := Lib.hid hE
  have HE0 := Lib.hid hE0
  clear hi3 hs3 hi23 hs23 hi25 hs25 hi85 hs85 hi86 hs86 hrun0 hgood he hxl hi hq hE hE0 hrx b1 b3
  have hmf : ∀ (fn : Fn) (first cap : Array Value) (w : World), (Instr.makeFunc fn first cap).run Tryd.prog w = .ok (.func fn first cap) w := fun _ _ _ _ => rfl
  go_enter_defers Tryd.func18, Tryd.ntmps18
  go_wp2_with (first
    | ((with_reducible refine at_dst (N := 6) rfl ?_); go_must (refine ev_alloc rfl rfl zero3 rfl ?_; intro g6 w1 hg6 hl6 hb6 hk1); have Hb6 := Lib.hid hb6; clear hb6; (try simp only [Act.put, List.setIfInBounds_toArray, List.set_cons_zero, List.set_cons_succ]))
    | ((with_reducible refine at_dst (N := 7) rfl ?_); go_must (refine ev_alloc rfl rfl zero23 rfl ?_; intro g7 w2 hg7 hl7 hb7 hk2); have Hb7 := Lib.hid hb7; clear hb7; (try simp only [Act.put, List.setIfInBounds_toArray, List.set_cons_zero, List.set_cons_succ]))
    | ((with_reducible refine at_dst (N := 8) rfl ?_); go_must (refine ev_alloc rfl rfl zero25 rfl ?_; intro g8 w3 hg8 hl8 hb8 hk3); have Hb8 := Lib.hid hb8; clear hb8
       have b0 := hk3.cell (hk2.cell (hk1.cell b0 id) id) id
       have b2 := hk3.cell (hk2.cell (hk1.cell b2 id) id) id
       (try simp only [Act.put, List.setIfInBounds_toArray, List.set_cons_zero, List.set_cons_succ]))
    | (go_at_call 38; go_must (refine (is_some eb mb q A E.rules.length cc w3 b2 b0 h200).mono ?_; rintro e w' ⟨rfl, rfl⟩; rw [HE0.out]))
    | ((with_reducible refine at_dst (N := 23) rfl ?_); go_must (refine ev_makeMap rfl rfl ?_; intro ob w4 hgo hlo hbo hk4); have Hbo := Lib.hid hbo; clear hbo; (try simp only [Act.put, List.setIfInBounds_toArray, List.set_cons_zero, List.set_cons_succ]))
    | ((with_reducible refine at_dst (N := 26) rfl ?_); go_must (refine ev_box (cs := #[.pointer (some ⟨eb, 0, none⟩), .map (some ob), .slice none 0 0, .int .i64 E.most]) rfl rfl rfl ?_; intro ab w5 hga hla hba hk5); have Hba := Lib.hid hba; clear hba; (try simp only [Act.put, List.setIfInBounds_toArray, List.set_cons_zero, List.set_cons_succ]))
    | ((with_reducible refine at_dst (N := 10) rfl ?_); go_must (refine ev_alloc rfl rfl zero86 rfl ?_; intro g10 w6 hg10 hl10 hb10 hk6); have Hb10 := Lib.hid hb10; clear hb10; (try simp only [Act.put, List.setIfInBounds_toArray, List.set_cons_zero, List.set_cons_succ]))
    | ((with_reducible refine at_store (t := 86) rfl ?_); go_must (refine ev_store (cs' := #[.pointer (some ⟨ab, 0, none⟩)]) rfl rfl rfl rfl rfl rfl HI.out.2.2.2.2.1 HI.out.2.2.2.2.2 rfl Hb10.out (Nat.le_of_ble_eq_true rfl) rfl ?_; intro w7 hb7 hk7); have Hb107 := Lib.hid hb7; have c10 := (blk_cell hb7 0).trans rfl; clear hb7; (try simp only [Act.put, List.setIfInBounds_toArray, List.set_cons_zero, List.set_cons_succ])))
  have z1 := hk1.size
  have z2 := hk2.size
  have z3 := hk3.size
  have z4 := hk4.size
  have z5 := hk5.size
  have z6 := hk6.size
  have z7 := hk7.size
  have h13 : Keeps Nob w w3 := (hk1.trans hk2 (fun _ _ h => h)).trans hk3 (fun _ _ h => h)
  have h46 : Keeps Nob w3 w6 := (hk4.trans hk5 (fun _ _ h => h)).trans hk6 (fun _ _ h => h)
  have h37 : Keeps Nob w3 w7 := h46.own hk7 (by omega)
  have h07 : Keeps Nob w w7 := h13.trans h37 (fun _ _ h => h)
  have b6 := h37.blk (hk3.blk (hk2.blk Hb6.out id) id) id
  have b7 := h37.blk (hk3.blk Hb7.out id) id
  have b8 := h37.blk Hb8.out id
  have bo := hk7.blk (hk6.blk (hk5.blk Hbo.out id) id) (by show ob ≠ g10; omega)
  have ba := hk7.blk (hk6.blk Hba.out id) (by show ab ≠ g10; omega)
  have hx := Hxl.out
  have hc7 : AskC w7 X ab eb ib mb ob E ⟨ans, []⟩ (.slice none 0 0) := ⟨ba, He.out.keep h07 id id id (fun _ _ _ => id) (fun _ _ => Iff.rfl), ⟨_, _, bo⟩, ⟨rfl, .inl ⟨rfl, rfl⟩⟩, fun h => by have := hx _ h; omega, fun h => by have := hx _ h; omega, fun b hb => (by cases hb), by omega, fun k hk => by have := hx _ hk; omega⟩
  have ho7 : OpenX w7 ob [] := ⟨#[], 0, bo, ⟨by simp, by simp⟩, fun q => by simp [mlook_nil]⟩
  have hrun := HRun.out w7 X ab eb ib mb ob ⟨ans, []⟩ (.slice none 0 0) q hc7 ho7 Hi.out Hq.out
  have hM : ∀ k, k ≠ ab → k ≠ ob → k ≠ mb → ¬ MSet ab ob mb (.slice none 0 0) k := fun k h1 h2 h3 hm => by
    rcases hm with h | h | h | h
    · exact h1 h
    · exact h2 h
    · exact h3 h
    · cases h
  have m6 := hM g6 (by omega) (by omega) (by omega)
  have m7 := hM g7 (by omega) (by omega) (by omega)
  have m8 := hM g8 (by omega) (by omega) (by omega)
  have m10 := hM g10 (by omega) (by omega) (by omega)
  have HK := Lib.hid h07
  have B6 := Lib.hid b6
  have B7 := Lib.hid b7
  have B8 := Lib.hid b8
  have HM := Lib.hid (And.intro m6 (And.intro m7 (And.intro m8 m10)))
  have hgd := HGood.out
  clear h13 h46 h37 h07 b6 b7 b8 bo ba hc7 ho7 hM m6 m7 m8 m10 hx hk1 hk2 hk3 hk4 hk5 hk6 hk7 b0 b2 c10
  rcases hr : ask ⟨ans, []⟩ q with ⟨s1, r1⟩
  rw [hr] at hrun hgd
  have HRun1 := Lib.hid hrun
  have HGood1 := Lib.hid hgd
  have Hr := Lib.hid hr
  clear hrun hgd hr
  cases r1 with
  | error c =>
    refine HRun1.out.mono ?_
    rintro e w8 ⟨X', wv', hp, _, he⟩
    simp only [EndAs] at he
    subst he
    obtain ⟨wA, wc, rfl⟩ := own_slice hp.core.own
    have c10 := (blk_cell (hp.blk Hb107.out HM.out.2.2.2) 0).trans rfl
    have cab := (blk_cell hp.core.ablk 2).trans rfl
    refine leaves_cons (f := 39) (args := #[.pointer (some ⟨g10, 0, none⟩), .pointer (some ⟨g6, 0, none⟩), .pointer (some ⟨g7, 0, none⟩), .pointer (some ⟨g8, 0, none⟩)]) (by simp) (by simp [go_sem]) ?_
    refine (Ask_catch g10 g6 g7 g8 ab (.slice wA s1.done.length wc) wA s1.done.length wc c w8 _ _ _ c10 cab (hp.blk B6.out HM.out.1) (hp.blk B7.out HM.out.2.1) (hp.blk B8.out HM.out.2.2.1) (by omega) (by omega) (by omega)).mono ?_
    rintro e u' w9 ⟨rfl, rfl, hk9, hb6, hb7, hb8⟩
    have r6 : w9.cell? ⟨g6, 0, none⟩ = some (.int .i64 0) := (blk_cell hb6 0).trans rfl
    have r7 : w9.cell? ⟨g7, 0, none⟩ = some (.slice wA s1.done.length wc) := (blk_cell hb7 0).trans rfl
    have r8 : w9.cell? ⟨g8, 0, none⟩ = some (.int .i64 c) := (blk_cell hb8 0).trans rfl
    simp only [settle, Leaves]
    refine ⟨_, results_cells3 (x := .int .i64 0) (y := .slice wA s1.done.length wc) (z := .int .i64 c) rfl _ _ rfl rfl rfl (by go_simp) (by go_simp) (by go_simp), ?_⟩
    exact AskEnd.of Hxl.out HK.out (by omega) (by omega) hp hk9 (fun k hk => by rcases hk with rfl | rfl | rfl <;> omega) leb lib lmb rfl rfl
  | ok y =>
    obtain ⟨v, ch⟩ := y
    refine HRun1.out.mono ?_
    rintro e w8 ⟨X', wv', hp, ho8, he⟩
    simp only [EndAs, KeptV] at he
    obtain ⟨_, ⟨u, ck, rfl, hu⟩, rfl⟩ := he
    obtain ⟨wA, wc, rfl⟩ := own_slice hp.core.own
    have c10 := (blk_cell (hp.blk Hb107.out HM.out.2.2.2) 0).trans rfl
    have b6 := hp.blk B6.out HM.out.1
    have b7 := hp.blk B7.out HM.out.2.1
    have b8 := hp.blk B8.out HM.out.2.2.1
    have cab := (blk_cell hp.core.ablk 2).trans rfl
    have B68 := Lib.hid b6
    have B78 := Lib.hid b7
    have B88 := Lib.hid b8
    have HP := Lib.hid hp
    have Hu := Lib.hid hu
    have z8 := hp.keep.size
    clear hp b6 b7 b8 ho8 hu
    go_wp2_with (first
      | ((with_reducible refine at_dst (N := 11) rfl ?_); go_must (refine ev_alloc rfl rfl zero85 rfl ?_; intro g11 w9 hg11 hl11 hb11 hk9); have Hb11 := Lib.hid hb11; clear hb11; (try simp only [Act.put, List.setIfInBounds_toArray, List.set_cons_zero, List.set_cons_succ]))
      | ((with_reducible refine at_store (t := 85) rfl ?_); go_must (refine ev_store (cs' := #[.int .i64 v, u, .int .i64 ck, .int .i64 ch]) (vs := [.int .i64 v, u, .int .i64 ck, .int .i64 ch]) rfl rfl rfl rfl rfl rfl HI.out.2.2.2.1.1 HI.out.2.2.2.1.2 (by have := Hu.out; simp only [List.all_cons, List.all_nil, this]; rfl) Hb11.out (Nat.le_of_ble_eq_true rfl) rfl ?_; intro w10 hb10' hk10); have c11 := (blk_cell hb10' 0).trans rfl; clear hb10'; (try simp only [Act.put, List.setIfInBounds_toArray, List.set_cons_zero, List.set_cons_succ])))
    have e6 := hk9.trans hk10 (fun i hi e => absurd hi (by omega)) (M := Nob)
    have b69 := e6.blk B68.out id
    have b79 := e6.blk B78.out id
    have b89 := e6.blk B88.out id
    have c10 := e6.cell c10 id
    have cab := e6.cell cab id
    have B69 := Lib.hid b69
    have B79 := Lib.hid b79
    have B89 := Lib.hid b89
    have E6 := Lib.hid e6
    have l6 := blk_lt B68.out
    clear b69 b79 b89 e6 hk9 hk10
    refine wp_region_perm_np [(0, true), (1, true), (2, true), (3, true), (4, true), (5, true), (6, false), (7, false), (8, false)] (fun w' => w'.cell? ⟨g11, 0, none⟩ = some (.int .i64 v) ∧ w'.cell? ⟨g10, 0, none⟩ = some (.pointer (some ⟨ab, 0, none⟩)) ∧ w'.cell? ⟨ab, 2, none⟩ = some (.slice wA s1.done.length wc)) rfl (by kernel_rfl) (by kernel_rfl) (by decide) ⟨c11, c10, cab⟩ ?_
    refine perm_q (v := ?v1_0) (some 31) rfl rfl rfl ?q1_0 ?h1_0; (case q1_0 => (intro w' hS; obtain ⟨s1, s2, s3⟩ := hS; first | (go_simp; done) | (go_simp; rfl))); (try simp only [Act.put, List.setIfInBounds_toArray, List.set_cons_zero, List.set_cons_succ])
    refine perm_q (v := ?v1_1) (some 32) rfl rfl rfl ?q1_1 ?h1_1; (case q1_1 => (intro w' hS; obtain ⟨s1, s2, s3⟩ := hS; first | (go_simp; done) | (go_simp; rfl))); (try simp only [Act.put, List.setIfInBounds_toArray, List.set_cons_zero, List.set_cons_succ])
    refine perm_q (v := ?v1_2) (some 33) rfl rfl rfl ?q1_2 ?h1_2; (case q1_2 => (intro w' hS; obtain ⟨s1, s2, s3⟩ := hS; first | (go_simp; done) | (go_simp; rfl))); (try simp only [Act.put, List.setIfInBounds_toArray, List.set_cons_zero, List.set_cons_succ])
    refine perm_q (v := ?v1_3) (some 34) rfl rfl rfl ?q1_3 ?h1_3; (case q1_3 => (intro w' hS; obtain ⟨s1, s2, s3⟩ := hS; first | (go_simp; done) | (go_simp; rfl))); (try simp only [Act.put, List.setIfInBounds_toArray, List.set_cons_zero, List.set_cons_succ])
    refine perm_q (v := ?v1_4) (some 35) rfl rfl rfl ?q1_4 ?h1_4; (case q1_4 => (intro w' hS; obtain ⟨s1, s2, s3⟩ := hS; first | (go_simp; done) | (go_simp; rfl))); (try simp only [Act.put, List.setIfInBounds_toArray, List.set_cons_zero, List.set_cons_succ])
    refine perm_q (v := ?v1_5) (some 36) rfl rfl rfl ?q1_5 ?h1_5; (case q1_5 => (intro w' hS; obtain ⟨s1, s2, s3⟩ := hS; first | (go_simp; done) | (go_simp; rfl))); (try simp only [Act.put, List.setIfInBounds_toArray, List.set_cons_zero, List.set_cons_succ])
    refine perm_e rfl ?_   -- 6: store 3 t6 t32
    go_must (refine ev_store (W := w10.drew) (cs' := #[.int .i64 v]) rfl rfl rfl rfl rfl rfl HI.out.1.1 HI.out.1.2 rfl B69.out (Nat.le_of_ble_eq_true rfl) rfl ?_; intro w11 hb11' hk11)
    refine wpList_nil ⟨⟨hk11.cell (w := w10.drew) c11 (by show g11 ≠ g6; omega), hk11.cell (w := w10.drew) c10 (by show g10 ≠ g6; omega), hk11.cell (w := w10.drew) cab (by show ab ≠ g6; omega)⟩, ?_⟩
    refine perm_e rfl ?_   -- 7: store 23 t7 t36
    go_must (refine ev_store (cs' := #[.slice wA s1.done.length wc]) rfl rfl rfl rfl rfl rfl HI.out.2.1.1 HI.out.2.1.2 rfl (hk11.blk (w := w10.drew) B79.out (by show g7 ≠ g6; omega)) (Nat.le_of_ble_eq_true rfl) rfl ?_; intro w12 hb12' hk12)
    refine wpList_nil ⟨⟨hk12.cell (hk11.cell (w := w10.drew) c11 (by show g11 ≠ g6; omega)) (by show g11 ≠ g7; omega), hk12.cell (hk11.cell (w := w10.drew) c10 (by show g10 ≠ g6; omega)) (by show g10 ≠ g7; omega), hk12.cell (hk11.cell (w := w10.drew) cab (by show ab ≠ g6; omega)) (by show ab ≠ g7; omega)⟩, ?_⟩
    refine perm_e rfl ?_   -- 8: store 25 t8 0:i64
    go_must (refine ev_store (cs' := #[.int .i64 0]) rfl rfl rfl rfl rfl rfl HI.out.2.2.1.1 HI.out.2.2.1.2 rfl (hk12.blk (hk11.blk (w := w10.drew) B89.out (by show g8 ≠ g6; omega)) (by show g8 ≠ g7; omega)) (Nat.le_of_ble_eq_true rfl) rfl ?_; intro w13 hb13' hk13)
    refine wpList_nil ⟨⟨hk13.cell (hk12.cell (hk11.cell (w := w10.drew) c11 (by show g11 ≠ g6; omega)) (by show g11 ≠ g7; omega)) (by show g11 ≠ g8; omega), hk13.cell (hk12.cell (hk11.cell (w := w10.drew) c10 (by show g10 ≠ g6; omega)) (by show g10 ≠ g7; omega)) (by show g10 ≠ g8; omega), hk13.cell (hk12.cell (hk11.cell (w := w10.drew) cab (by show ab ≠ g6; omega)) (by show ab ≠ g7; omega)) (by show ab ≠ g8; omega)⟩, ?_⟩
    refine perm_nil_np ?_
    have h6 := hk13.blk (hk12.blk hb11' (by show g6 ≠ g7; omega)) (by show g6 ≠ g8; omega)
    have h7 := hk13.blk hb12' (by show g7 ≠ g8; omega)
    have r6 : w13.cell? ⟨g6, 0, none⟩ = some (.int .i64 v) := (blk_cell h6 0).trans rfl
    have r7 : w13.cell? ⟨g7, 0, none⟩ = some (.slice wA s1.done.length wc) := (blk_cell h7 0).trans rfl
    have r8 : w13.cell? ⟨g8, 0, none⟩ = some (.int .i64 0) := (blk_cell hb13' 0).trans rfl
    have hk813 : Keeps (fun k => k = g6 ∨ k = g7 ∨ k = g8) w8 w13 := (((E6.out.drew.mono (M' := fun k => k = g6 ∨ k = g7 ∨ k = g8) (fun _ _ h => h.elim)).trans hk11 (fun _ _ e => .inl e)).trans hk12 (fun _ _ e => .inr (.inl e))).trans hk13 (fun _ _ e => .inr (.inr e))
    clear hk11 hk12 hk13 h6 h7 hb11' hb12' hb13' c10 c11 cab
    go_wp2
    (try simp only [Exit.inBlock, Exit.then])
    refine leaves_cons (f := 39) (args := #[.pointer (some ⟨g10, 0, none⟩), .pointer (some ⟨g6, 0, none⟩), .pointer (some ⟨g7, 0, none⟩), .pointer (some ⟨g8, 0, none⟩)]) (by simp) (by simp [go_sem]) ?_
    refine (Ask_idle ⟨g10, 0, none⟩ ⟨g6, 0, none⟩ ⟨g7, 0, none⟩ ⟨g8, 0, none⟩ _).mono ?_
    rintro e u' w'' ⟨rfl, rfl, rfl⟩
    simp only [settle, Leaves]
    refine ⟨_, results_cells3 (x := .int .i64 v) (y := .slice wA s1.done.length wc) (z := .int .i64 0) rfl _ _ rfl rfl rfl (by go_simp) (by go_simp) (by go_simp), ?_⟩
    rw [Hr.out]
    exact AskEnd.of Hxl.out HK.out (by omega) (by omega) HP.out hk813 (fun k hk => by rcases hk with rfl | rfl | rfl <;> omega) leb lib lmb rfl rfl
end Go.Proofs.QW
