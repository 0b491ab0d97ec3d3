/-
 Worlds, blocks and slices: small lemmas that every walk of this seat uses (what stays as it was; new blocks; stores; slices that read as lists). No condition.
-/
import Derived.WalkKit
import Derived.WalkSpells
import Derived.WalkLawsBesides
import Derived.BigQuiet
import Derived.Lib.Hide
import Derived.Deep.LoopGhost
import Derived.Deep.DeepMust
import Derived.Deep.RegionHeld3
import Derived.OrdersHeld
import Derived.Deep.AppendLies
import Derived.Lib.ItoaNum
import Derived.Test.YtcmmnbipaemgiaaDoorChecked
import Derived.Lib.AppendStr
import Derived.Lib.ConvBytes
import Derived.Lib.UnsafeStr
import Derived.Laws.BytesString
import Derived.Shelf.Strings.Builder1
import Derived.Shelf.Small.Strs
import Derived.Shelf.Small.Wraps
import Derived.Shelf.Strings.BuilderF
import Derived.Shelf.Strings.BuilderK
import Derived.Shelf.Strconv.Itoa0
import Derived.Shelf.Strconv.Itoa1
import Derived.Shelf.LaysM
import Derived.Shelf.Strconv.Itoa2
import Derived.Shelf.Strconv.Itoa3
import Derived.Shelf.Strconv.Itoa4
import Derived.Shelf.Strings.Search1
import Derived.Shelf.Strings.BuilderCap
import Derived.Shelf.Slices.Turned
import Derived.Shelf.Slices.Equal
import Derived.Ground.Names2Prog
import Derived.Shelf.Slices.Clone
import Derived.Shelf.Slices.Empties2
import Derived.Ground.SlgnProg
import Derived.Shelf.SlicesE.Clone
import Derived.Shelf.Bytes.SlSmallAll
import Derived.Shelf.Bytes.Small
import Derived.Test.YtcmmnbipaemgiaaDoorProg
import Derived.Lib.Builder
import Derived.Laws.Externs
import Derived.Deep.DeepCutAuto
namespace Go.Proofs.KL
theorem PU : (∀ (a : Act) (d : Option Tmp) (v : Value), a.put d v = match d with | some t => { a with tmps := a.tmps.setIfInBounds t v } | none => a) ∧ (∀ (l : List Value) (i : Nat) (v : Value), l.toArray.setIfInBounds i v = (l.set i v).toArray) ∧ (∀ (x : Value) (l : List Value) (v : Value), (x :: l).set 0 v = v :: l) ∧ (∀ (x : Value) (l : List Value) (n : Nat) (v : Value), (x :: l).set (n + 1) v = x :: l.set n v) :=
  ⟨fun _ _ _ => rfl, fun _ _ _ => List.setIfInBounds_toArray .., fun _ _ _ => rfl, fun _ _ _ _ => rfl⟩
end Go.Proofs.KL
namespace Go.Proofs.KL
open Go.RowKit

structure Keeps (M : Nat → Prop) (w w' : World) : Prop where
 os : w'.os = w.os
 tape : w'.tape = w.tape
 output : w'.output = w.output
 size : w.heap.size ≤ w'.heap.size
 block : ∀ k, k < w.heap.size → ¬ M k → w'.heap[k]? = w.heap[k]?
def Nob : Nat → Prop := fun _ => False
theorem Keeps.refl (M : Nat → Prop) (w : World) : Keeps M w w := ⟨rfl, rfl, rfl, Nat.le_refl _, fun _ _ _ => rfl⟩
theorem Keeps.trans {M M' : Nat → Prop} {a b c : World} (h : Keeps M a b) (k : Keeps M' b c) (hm : ∀ i, i < a.heap.size → M' i → M i) : Keeps M a c :=
 ⟨k.os.trans h.os, k.tape.trans h.tape, k.output.trans h.output, Nat.le_trans h.size k.size, fun i hi hn =>
  (k.block i (Nat.lt_of_lt_of_le hi h.size) (fun hk => hn (hm i hi hk))).trans (h.block i hi hn)⟩
theorem Keeps.mono {M M' : Nat → Prop} {a b : World} (h : Keeps M a b) (hm : ∀ i, i < a.heap.size → M i → M' i) : Keeps M' a b :=
 ⟨h.os, h.tape, h.output, h.size, fun i hi hn => h.block i hi (fun hk => hn (hm i hi hk))⟩
theorem Keeps.below {w w' : World} (h : Keeps Nob w w') : Below w.heap.size w w' := ⟨h.os, h.tape, h.output, h.size, fun i hi => h.block i hi id⟩
theorem Keeps.alloc {M : Nat → Prop} {a w : World} (h : Keeps M a w) (o : Obj) : Keeps M a (w.alloc o) :=
 h.trans (M' := M) ⟨rfl, rfl, rfl, by simp, fun k hk _ => Below.heap_alloc _ _ _ hk⟩ (fun _ _ h => h)
theorem Keeps.drew {M : Nat → Prop} {a w : World} (h : Keeps M a w) : Keeps M a w.drew := ⟨h.os, h.tape, h.output, h.size, h.block⟩
theorem Keeps.drewN {M : Nat → Prop} {a w : World} (h : Keeps M a w) (n : Nat) : Keeps M a (w.drewN n) := ⟨h.os, h.tape, h.output, h.size, h.block⟩
theorem Keeps.setObj {M : Nat → Prop} {a w : World} (h : Keeps M a w) {r : Nat} (hr : M r ∨ a.heap.size ≤ r) (o : Obj) : Keeps M a { w with heap := w.heap.setIfInBounds r o } :=
 h.trans (M' := fun k => k = r) ⟨rfl, rfl, rfl, by simp, fun k _ hn => by rw [Array.getElem?_setIfInBounds, if_neg (fun e => hn e.symm)]⟩
  (fun i hi e => hr.elim (fun h => e ▸ h) (fun h => absurd hi (by omega)))
theorem blk_lt {w : World} {b : Nat} {o : Obj} (h : w.heap[b]? = some o) : b < w.heap.size := by
 rcases Nat.lt_or_ge b w.heap.size with h' | h'
 · exact h'
 · rw [Array.getElem?_eq_none h'] at h; cases h
theorem Keeps.blk {M : Nat → Prop} {w w' : World} (h : Keeps M w w') {b : Nat} {o : Obj} (hb : w.heap[b]? = some o) (hn : ¬ M b) : w'.heap[b]? = some o := (h.block b (blk_lt hb) hn).trans hb
theorem Keeps.cell {M : Nat → Prop} {w w' : World} (h : Keeps M w w') {p : Addr} {v : Value} (hc : w.cell? p = some v) (hn : ¬ M p.block) : w'.cell? p = some v :=
 (World.cell?_of_block (w := w) (h.block p.block (World.block_lt_of_cell? w p hc) hn)).trans hc
theorem Keeps.frozen {M : Nat → Prop} {w w' : World} (h : Keeps M w w') {p : Addr} (hp : p.block < w.heap.size) (hn : ¬ M p.block) : w'.frozen? p = w.frozen? p :=
 World.frozen?_of_block (w := w) (h.block p.block hp hn)

theorem blk_cell {w : World} {g : Nat} {cs : Array Value} {t : TypeId} {f : Nat × Nat} (h : w.heap[g]? = some (.cells cs t f)) (i : Nat) : w.cell? ⟨g, i, none⟩ = cs[i]? := by
 simp [World.cell?, h]
theorem blk_new (W : World) (o : Obj) : (W.alloc o).heap[W.heap.size]? = some o := by
 show (W.heap.push o)[W.heap.size]? = some o
 simp

section
variable {P : Program} {ops : Array Oper} {rest : List Oper} {o : Oper} {a : Act} {Q : Exit → Act → World → Prop}
theorem at_dst {N : Tmp} {W : World} (_h : o.dst = some N) (h : wpList P ops Q (o :: rest) a W) : wpList P ops Q (o :: rest) a W := h
theorem at_store {t : TypeId} {p : Tmp} {v : Operand} {W : World} (_h : o.op = .store t (.tmp p) v) (h : wpList P ops Q (o :: rest) a W) : wpList P ops Q (o :: rest) a W := h
theorem ev_run {W w1 : World} {v : Value} (hgd : o.guard = none) (hrun : (execOp a.eval o).run P W = .ok (.value v) w1) (h : wpList P ops Q rest (a.put o.dst v) w1) : wpList P ops Q (o :: rest) a W :=
 wpList_plain hgd fun K hK => by unfold Oper.wp; rw [hrun]; exact hK _ _ h
theorem ev_skip {W w1 : World} (hgd : o.guard = none) (hN : o.dst = none) (hrun : (execOp a.eval o).run P W = .ok .skip w1) (h : wpList P ops Q rest a w1) : wpList P ops Q (o :: rest) a W :=
 wpList_plain hgd fun K hK => by
  unfold Oper.wp; rw [hrun]
  show K (a.put o.dst undef) w1
  rw [hN]; exact hK _ _ h
theorem ev_new {W : World} (hgd : o.guard = none) {cs : Array Value} {t : TypeId}
  (hrun : (execOp a.eval o).run P W = .ok (.value (.pointer (some ⟨W.heap.size, 0, none⟩))) (W.alloc (.cells cs t (0, 0))))
  (h : ∀ g w1, W.heap.size ≤ g → g < w1.heap.size → w1.heap[g]? = some (.cells cs t (0, 0)) → Keeps Nob W w1 → wpList P ops Q rest (a.put o.dst (.pointer (some ⟨g, 0, none⟩))) w1) : wpList P ops Q (o :: rest) a W :=
 ev_run hgd hrun (h _ _ (Nat.le_refl _) (by simp) (blk_new W _) ((Keeps.refl _ _).alloc _))
theorem ev_store {W : World} (hgd : o.guard = none) (hN : o.dst = none) {t : TypeId} {p v : Operand} (ho : o.op = .store t p v) {g off : Nat} {cs cs' : Array Value} {T : TypeId} {x : Value} {vs : List Value} {i : TypeInfo}
  (hp : a.eval p = .pointer (some ⟨g, off, none⟩)) (hx : a.eval v = x) (hv : x.cells.toList = vs) (hi : P.info? t = some i) (hsz : i.size = vs.length) (h1 : vs.all (·.oneCell') = true)
  (hb : W.heap[g]? = some (.cells cs T (0, 0))) (hfit : off + vs.length ≤ cs.size) (hcs : (cs.toList.take off ++ vs ++ cs.toList.drop (off + vs.length)).toArray = cs')
  (h : ∀ w1, w1.heap[g]? = some (.cells cs' T (0, 0)) → Keeps (· = g) W w1 → wpList P ops Q rest a w1) : wpList P ops Q (o :: rest) a W := by
 have hst := run_storeCells_at (P := P) g off T vs 0 cs W hb (by simpa using hfit) (fun u hu => List.all_eq_true.1 h1 u hu)
 have hl : x.cells.size = vs.length := by rw [← hv]; simp
 have hrun : (execOp a.eval o).run P W = .ok .skip (W.setRow g cs') := by
  simp only [execOp, ho, hp, hx, Instr.storeAt, Instr.sureAddr, storeVar, sizeOf, typeInfo]
  rw [← hcs]
  simp [hi, hsz, hl, hv, hst]
 refine ev_skip hgd hN hrun (h _ ?_ ?_)
 · exact setRow_heap W g _ _ T _ hb
 · exact ⟨rfl, rfl, rfl, by simp [World.setRow], fun k _ hn => by simp only [World.setRow, Array.getElem?_modify]; rw [if_neg (fun e => hn e.symm)]⟩
theorem ev_alloc {W : World} (hgd : o.guard = none) {t : TypeId} (ho : o.op = .alloc t) {z : Value} {cs : Array Value} (hz : (P.info? t).map (·.zero) = some (some z)) (hcs : z.cells = cs)
  (h : ∀ g w1, W.heap.size ≤ g → g < w1.heap.size → w1.heap[g]? = some (.cells cs t (0, 0)) → Keeps Nob W w1 → wpList P ops Q rest (a.put o.dst (.pointer (some ⟨g, 0, none⟩))) w1) : wpList P ops Q (o :: rest) a W := by
 obtain ⟨i, hi, hzz⟩ := Option.map_eq_some_iff.1 hz
 refine ev_new hgd ?_ h
 simp [execOp, ho, Instr.alloc, zeroValue, typeInfo, hi, hzz, newVar, newRow, newObj, hcs]
 rfl
theorem ev_box {W : World} (hgd : o.guard = none) {t : TypeId} {x : Operand} (ho : o.op = .box t x) {cs : Array Value} (hcs : (a.eval x).cells = cs)
  (h : ∀ g w1, W.heap.size ≤ g → g < w1.heap.size → w1.heap[g]? = some (.cells cs t (0, 0)) → Keeps Nob W w1 → wpList P ops Q rest (a.put o.dst (.pointer (some ⟨g, 0, none⟩))) w1) : wpList P ops Q (o :: rest) a W := by
 refine ev_new hgd ?_ h
 simp [execOp, ho, Instr.box, newVar, newRow, newObj, hcs]
 rfl
end
theorem Keeps.own {M : Nat → Prop} {a b c : World} {g : Nat} (h : Keeps M a b) (k : Keeps (· = g) b c) (hg : a.heap.size ≤ g) : Keeps M a c :=
 h.trans k (fun i hi e => absurd hi (by omega))
theorem Keeps.then {M : Nat → Prop} {a b c : World} (h : Keeps M a b) (k : Keeps Nob b c) : Keeps M a c := h.trans k (fun _ _ e => e.elim)
theorem Keeps.cells {M : Nat → Prop} {a b : World} (h : Keeps M a b) : ∀ k o, k < a.heap.size → ¬ M k → b.cell? ⟨k, o, none⟩ = a.cell? ⟨k, o, none⟩ :=
 fun k _ hk hn => World.cell?_of_block (w := a) (h.block k hk hn)
end Go.Proofs.KL

namespace Go.Proofs.KL
open Go.RowKit

def keyInt (e : MapEntry) : Int := match e.key with | .int _ a => a | _ => 0
structure IntKeyed (es : List MapEntry) : Prop where
 keys : ∀ e ∈ es, ∃ q, e.key = .int .i64 q
 nodup : (es.map keyInt).Nodup
def mlookAt (q : Int) : List MapEntry → Nat → Option (Nat × Value)
 | [], _ => none
 | e :: r, i => if keyInt e = q then some (i, e.val) else mlookAt q r (i + 1)
def mlook (es : List MapEntry) (q : Int) : Option Value := (mlookAt q es 0).map (·.2)
theorem mlookAt_shift (q : Int) : ∀ (es : List MapEntry) (i : Nat), mlookAt q es i = (mlookAt q es 0).map fun x => (x.1 + i, x.2)
 | [], _ => rfl
 | e :: r, i => by
   unfold mlookAt
   split
   · simp
   · rw [mlookAt_shift q r (i + 1), mlookAt_shift q r (0 + 1)]
     cases mlookAt q r 0 <;> simp; omega
theorem mlook_cons (e : MapEntry) (r : List MapEntry) (q : Int) : mlook (e :: r) q = if keyInt e = q then some e.val else mlook r q := by
 unfold mlook
 rw [mlookAt]
 split
 · rfl
 · rw [mlookAt_shift]; cases mlookAt q r 0 <;> rfl
theorem mlook_nil (q : Int) : mlook [] q = none := rfl
theorem mlook_isSome_mem {es : List MapEntry} {q : Int} : (mlook es q).isSome = true ↔ q ∈ es.map keyInt := by
 induction es with
 | nil => simp [mlook_nil]
 | cons e r ih =>
   rw [mlook_cons]
   by_cases h : keyInt e = q
   · simp [h]
   · simp only [if_neg h, ih, List.map_cons, List.mem_cons]
     constructor
     · exact .inr
     · rintro (h' | h')
       · exact absurd h'.symm h
       · exact h'
theorem map_set_keys {es : List MapEntry} {k : Nat} {e e' : MapEntry} (he : es[k]? = some e) (hk : keyInt e' = keyInt e) : (es.set k e').map keyInt = es.map keyInt := by
 rw [List.map_set, hk]
 apply List.ext_getElem?
 intro i
 rw [List.getElem?_set]
 split
 · rename_i h; subst h
   have hlt : k < es.length := (List.getElem?_eq_some_iff.1 he).1
   have := (List.getElem?_eq_some_iff.1 he).2
   simp [hlt, this]
 · rfl
theorem IntKeyed.set {es : List MapEntry} (h : IntKeyed es) {k : Nat} {e e' : MapEntry} (he : es[k]? = some e) (hk : ∃ q, e'.key = .int .i64 q) (hk' : keyInt e' = keyInt e) : IntKeyed (es.set k e') :=
 ⟨fun x hx => by
  rcases List.mem_or_eq_of_mem_set hx with hx | rfl
  · exact h.keys x hx
  · exact hk, by rw [map_set_keys he hk']; exact h.nodup⟩
theorem IntKeyed.push {es : List MapEntry} (h : IntKeyed es) {e : MapEntry} {q : Int} (hk : e.key = .int .i64 q) (hq : mlook es q = none) : IntKeyed (es ++ [e]) :=
 ⟨fun x hx => by
  rcases List.mem_append.1 hx with hx | hx
  · exact h.keys x hx
  · rw [List.mem_singleton.1 hx]; exact ⟨q, hk⟩, by
  rw [List.map_append, List.nodup_append]
  refine ⟨h.nodup, by simp, fun a ha b hb => ?_⟩
  have hb' : b = q := by simpa [keyInt, hk] using hb
  rintro rfl
  subst hb'
  have := mlook_isSome_mem.2 ha
  rw [hq] at this; cases this⟩
section
variable {P : Program} {W : World} {t K E : TypeId} {kk : IntKind} {m : Nat} {es : Array MapEntry} {c : Nat}
theorem run_getObj_map (hb : W.heap[m]? = some (.map es c)) : (getObj m).run P W = .ok (.map es c) W := by
 simp [getObj, Sem.run, hb]
end
end Go.Proofs.KL

namespace Go.Proofs.KL
open Go.RowKit
section
variable {P : Program} {ops : Array Oper} {rest : List Oper} {o : Oper} {a : Act} {Q : Exit → Act → World → Prop} {W : World} {t K E : TypeId} {kk : IntKind} {m : Nat} {es : Array MapEntry} {c : Nat}
end
end Go.Proofs.KL

namespace Go.Proofs.KL
open Go.RowKit
section
variable {P : Program} {ops : Array Oper} {Q : Exit → Act → World → Prop} {S : World → Prop}
def permB (md : Region.Mode) (ops : Array Oper) : List (Nat × Bool) → Array Bool → Bool
 | [], listed => (Region.ready md ops listed).isEmpty
 | (i, true) :: r, listed => Region.free md ops listed i && ((Region.ready md ops listed).contains i && permB md ops r (listed.setIfInBounds i true))
 | (i, false) :: r, listed => (Region.ready md ops listed == [i]) && permB md ops r (listed.setIfInBounds i true)
def wpPerm (P : Program) (ops : Array Oper) (Q : Exit → Act → World → Prop) (S : World → Prop) : List (Nat × Bool) → Act → World → Prop
 | [], a, w => Q .normal a w
 | (i, true) :: r, a, w => ∃ o v, ops[i]? = some o ∧ YieldsIf P ops S o v a ∧ wpPerm P ops Q S r (a.put o.dst v) w
 | (i, false) :: r, a, w => ∃ o, ops[i]? = some o ∧ wpList P ops (Exit.then (fun a' w' => S w' ∧ wpPerm P ops Q S r a' w') Q) [o] a w
theorem perm_sound {md : Region.Mode} (hs : Region.noSelect ops = true) (hQ : ∀ c a d v w, Q (.panic c) (Act.put a d v) w → Q (.panic c) a w) :
  ∀ (π : List (Nat × Bool)) (fuel : Nat) (listed : Array Bool) (a : Act) (w : World), permB md ops π listed = true → π.length ≤ fuel → S w → wpPerm P ops Q S π a w → wpAnyH P md ops Q S fuel listed a w
 | [], fuel, listed, a, w, hB, _, _, h => wpAnyH_done (by simpa [permB] using hB) h fuel
 | (i, true) :: r, fuel, listed, a, w, hB, hl, hS, h => by
   obtain ⟨o, v, ho, hy, h⟩ := h
   obtain ⟨fuel, rfl⟩ : ∃ m, fuel = m + 1 := ⟨fuel - 1, by simp at hl; omega⟩
   simp only [permB, Bool.and_eq_true] at hB
   exact wpAnyH_take ho hs hB.1 hB.2.1 (fun c a w => hQ c a _ _ w) hy hS (perm_sound hs hQ r fuel _ _ _ hB.2.2 (by simpa using hl) hS h)
 | (i, false) :: r, fuel, listed, a, w, hB, hl, hS, h => by
   obtain ⟨o, ho, h⟩ := h
   obtain ⟨fuel, rfl⟩ : ∃ m, fuel = m + 1 := ⟨fuel - 1, by simp at hl; omega⟩
   simp only [permB, Bool.and_eq_true, beq_iff_eq] at hB
   refine wpAnyH_all hB.1 (by simp) (fun j hj => ?_)
   rw [List.mem_singleton.1 hj]
   unfold wpOp
   rw [ho]
   have key : ∀ a' w', (S w' ∧ wpPerm P ops Q S r a' w') → (S w' ∧ wpAnyH P md ops Q S fuel (listed.setIfInBounds i true) a' w') :=
    fun a' w' ⟨h1, h2⟩ => ⟨h1, perm_sound hs hQ r fuel _ _ _ hB.2 (by simpa using hl) h1 h2⟩
   unfold wpList at h
   simp only
   split
   · rename_i hw
     rw [if_pos hw] at h
     rcases h with h | ⟨h1, h2⟩
     · refine .inl ?_
       have h' : o.wp P a w (fun a' w' => S w' ∧ wpPerm P ops Q S r a' w') Q := h
       exact Oper.wp_mono key h'
     · exact .inr ⟨h1, h2⟩
   · rename_i hw
     rw [if_neg hw] at h
     exact key _ _ h
theorem wp_region_perm {id : Nat} {l : List Oper} {a : Act} {w : World} (π : List (Nat × Bool)) (S : World → Prop) (hm : P.follows .mixedOrders = true) (hs : Region.noSelect l.toArray = true)
  (hB : permB .any l.toArray π (Array.replicate l.toArray.size false) = true) (hl : π.length ≤ l.toArray.size) (hQ : ∀ c a d v w, Q (.panic c) (Act.put a d v) w → Q (.panic c) a w)
  (hS : S w.drew) (h : wpPerm P l.toArray Q S π a w.drew) : (Code.region id l.toArray true).wp P Q a w :=
 wp_region_held (S := S) hm (perm_sound hs hQ π _ _ _ _ hB hl hS h)
theorem perm_nil {a : Act} {w : World} (h : Q .normal a w) : wpPerm P ops Q S [] a w := h
theorem perm_q {i : Nat} {r : List (Nat × Bool)} {l : List Oper} {o : Oper} {v : Value} {a : Act} {w : World} (d : Option Tmp) (ho : l[i]? = some o) (hd : o.dst = d) (hw : Region.wanted o (yielded l.toArray a.tmps) = true) (hr : ∀ w', S w' → (execOp a.eval o).run P w' = .ok (.value v) w')
  (h : wpPerm P l.toArray Q S r (a.put d v) w) : wpPerm P l.toArray Q S ((i, true) :: r) a w := ⟨o, v, by simpa using ho, .inl ⟨hw, hr⟩, hd ▸ h⟩
theorem perm_skip {i : Nat} {r : List (Nat × Bool)} {l : List Oper} {o : Oper} {a : Act} {w : World} (d : Option Tmp) (ho : l[i]? = some o) (hd : o.dst = d) (hw : Region.wanted o (yielded l.toArray a.tmps) = false)
  (h : wpPerm P l.toArray Q S r (a.put d undef) w) : wpPerm P l.toArray Q S ((i, true) :: r) a w := ⟨o, undef, by simpa using ho, .inr ⟨hw, rfl⟩, hd ▸ h⟩
theorem perm_e {i : Nat} {r : List (Nat × Bool)} {l : List Oper} {o : Oper} {a : Act} {w : World} (ho : l[i]? = some o)
  (h : wpList P l.toArray (Exit.then (fun a' w' => S w' ∧ wpPerm P l.toArray Q S r a' w') Q) [o] a w) : wpPerm P l.toArray Q S ((i, false) :: r) a w := ⟨o, by simpa using ho, h⟩
end
end Go.Proofs.KL

namespace Go.Proofs.KL
open Go.RowKit
section
variable {P : Program} {ops : Array Oper} {rest : List Oper} {o : Oper} {a : Act} {Q : Exit → Act → World → Prop}
theorem ev_slice {W : World} (hgd : o.guard = none) {cs : Array Value} {t : TypeId} {n c : Nat}
  (hrun : (execOp a.eval o).run P W = .ok (.value (.slice (some ⟨W.heap.size, 0, none⟩) n c)) (W.alloc (.cells cs t (0, 0))))
  (h : ∀ g w1, W.heap.size ≤ g → g < w1.heap.size → w1.heap[g]? = some (.cells cs t (0, 0)) → Keeps Nob W w1 → wpList P ops Q rest (a.put o.dst (.slice (some ⟨g, 0, none⟩) n c)) w1) : wpList P ops Q (o :: rest) a W :=
 ev_run hgd hrun (h _ _ (Nat.le_refl _) (by simp) (blk_new W _) ((Keeps.refl _ _).alloc _))
theorem ev_makeMap {W : World} (hgd : o.guard = none) {t : TypeId} (ho : o.op = .makeMap t none)
  (h : ∀ g w1, W.heap.size ≤ g → g < w1.heap.size → w1.heap[g]? = some (.map #[] 0) → Keeps Nob W w1 → wpList P ops Q rest (a.put o.dst (.map (some g))) w1) : wpList P ops Q (o :: rest) a W := by
 refine ev_run hgd (w1 := W.alloc (.map #[] 0)) (v := .map (some W.heap.size)) ?_ (h _ _ (Nat.le_refl _) (by simp) (blk_new W _) ((Keeps.refl _ _).alloc _))
 simp [execOp, ho, Instr.makeMap, newObj]
 rfl
theorem ev_append {W : World} (hgd : o.guard = none) {s x : Operand} {t e : TypeId} (ho : o.op = .call { callee := .builtin .append, args := #[s, x], argTypes := #[t, t] }) (ht : P.underlying t = some (.slice e))
  {z : Value} {sz bytes : Nat} (hinf : (P.info? e).map (fun i => (i.zero, i.size, i.bytes)) = some (some z, sz, bytes)) (hz : z.cells.size = sz) (hs0 : 0 < sz)
  {base : Nat} {v : Value} {n : Nat} {xs : List Value} (hs : a.eval s = v) (hown : W.ownsRow base e sz v n xs) {A : Option Addr} {m c : Nat} {news : List Value} (hx : a.eval x = .slice A m c) (hl : news.length = m * sz)
  (hnews : 0 < m → ∃ ad, A = some ad ∧ ∀ j u, news[j]? = some u → W.cell? (ad.add j) = some u) (h1 : ∀ u ∈ news, u.oneCell' = true) (hbytes : (n + m) * bytes ≤ 140737488355328) (hb0 : 0 < bytes) (hbase : base ≤ W.heap.size)
  (h : ∀ v' w1, w1.ownsRow base e sz v' (n + m) (xs ++ news) → Keeps (fun k => some k = v.ownBlock) W w1 → (v'.ownBlock = v.ownBlock ∨ ∃ b, v'.ownBlock = some b ∧ W.heap.size ≤ b) → (0 < m → ∃ g cap, v' = .slice (some ⟨g, 0, none⟩) (n + m) cap) → wpList P ops Q rest (a.put o.dst v') w1) : wpList P ops Q (o :: rest) a W := by
 obtain ⟨i0, hi, hzz⟩ := Option.map_eq_some_iff.1 hinf
 simp only [Prod.mk.injEq] at hzz
 obtain ⟨hz0, hz1, hz2⟩ := hzz
 have hnm : n + m ≤ 140737488355328 := Nat.le_trans (Nat.le_mul_of_pos_right _ hb0) hbytes
 rcases Nat.eq_zero_or_pos m with hm | hm
 · subst hm
   obtain rfl : news = [] := List.eq_nil_of_length_eq_zero (by omega)
   have hrun : (Builtin.append_ #[t, t] o.type #[v, .slice A 0 c]).run P W = .ok v W := by
    rcases hown.2 with ⟨rfl, hn⟩ | ⟨g, cap, cur, rfl, _, _, hnc, _⟩
    · cases A <;> simp [Builtin.append_, run_underlying ht, sizeOf, typeInfo, hi, Builtin.lenOf, Builtin.firstCells, loadCells, loadCellsFrom]
    · cases A <;> simp [Builtin.append_, run_underlying ht, sizeOf, typeInfo, hi, Builtin.lenOf, Builtin.firstCells, loadCells, loadCellsFrom, hnc, storeCells]
   refine ev_run hgd (v := v) (w1 := W) ?_ (h v W (by simpa using hown) (Keeps.refl _ _) (.inl rfl) (fun h => absurd h (by omega)))
   simp [execOp, ho, resolve, invoke, builtin, hs, hx, hrun]
 · obtain ⟨ad, rfl, hnw⟩ := hnews hm
   obtain ⟨g, cap, w', hrun, ho', hg, hat, hlt⟩ := run_append_lies (P := P) (w := W) t o.type base e i0 z sz bytes ht hi hz0 hz1 hz2 hz hs0 v n xs hown ad m c news hl hnw h1 hm (by unfold maxLen; omega) hbytes hbase _ rfl
   refine ev_run hgd (v := .slice (some ⟨g, 0, none⟩) (n + m) cap) (w1 := w') ?_ (h _ _ ho' ⟨hg.os, hg.tape, hg.output, hg.size, fun k hk hn => hg.block k hk hn⟩ ?_ (fun _ => ⟨g, cap, rfl⟩))
   · simp [execOp, ho, resolve, invoke, builtin, hs, hx, hrun]
   · rcases hat with h2 | h2
     · exact .inl h2.symm
     · exact .inr ⟨g, rfl, by omega⟩
end
end Go.Proofs.KL

namespace Go.Proofs.KL
open Go.RowKit
inductive PT where
 | done : PT
 | q (i : Nat) (r : PT) : PT
 | br (l : List Nat) (f : Nat → PT) : PT
section
variable {P : Program} {ops : Array Oper} {Q : Exit → Act → World → Prop} {S : World → Prop}
def PT.ok (md : Region.Mode) (ops : Array Oper) : PT → Nat → Array Bool → Bool
 | .done, _, listed => (Region.ready md ops listed).isEmpty
 | .q _ _, 0, _ => false
 | .q i r, fuel + 1, listed => Region.free md ops listed i && ((Region.ready md ops listed).contains i && PT.ok md ops r fuel (listed.setIfInBounds i true))
 | .br _ _, 0, _ => false
 | .br l f, fuel + 1, listed => (Region.ready md ops listed == l) && ((!l.isEmpty) && l.all (fun i => PT.ok md ops (f i) fuel (listed.setIfInBounds i true)))
def wpTree (P : Program) (ops : Array Oper) (Q : Exit → Act → World → Prop) (S : World → Prop) : PT → Act → World → Prop
 | .done, a, w => Q .normal a w
 | .q i r, a, w => ∃ o v, ops[i]? = some o ∧ YieldsIf P ops S o v a ∧ wpTree P ops Q S r (a.put o.dst v) w
 | .br l f, a, w => ∀ i ∈ l, ∃ o, ops[i]? = some o ∧ wpList P ops (Exit.then (fun a' w' => S w' ∧ wpTree P ops Q S (f i) a' w') Q) [o] a w
theorem tree_sound {md : Region.Mode} (hs : Region.noSelect ops = true) (hQ : ∀ c a d v w, Q (.panic c) (Act.put a d v) w → Q (.panic c) a w) :
  ∀ (t : PT) (fuel : Nat) (listed : Array Bool) (a : Act) (w : World), PT.ok md ops t fuel listed = true → S w → wpTree P ops Q S t a w → wpAnyH P md ops Q S fuel listed a w
 | .done, fuel, listed, a, w, hB, _, h => wpAnyH_done (by simpa [PT.ok] using hB) h fuel
 | .q i r, 0, listed, a, w, hB, hS, h => by simp [PT.ok] at hB
 | .q i r, fuel + 1, listed, a, w, hB, hS, h => by
   obtain ⟨o, v, ho, hy, h⟩ := h
   simp only [PT.ok, Bool.and_eq_true] at hB
   exact wpAnyH_take ho hs hB.1 hB.2.1 (fun c a w => hQ c a _ _ w) hy hS (tree_sound hs hQ r fuel _ _ _ hB.2.2 hS h)
 | .br l f, 0, listed, a, w, hB, hS, h => by simp [PT.ok] at hB
 | .br l f, fuel + 1, listed, a, w, hB, hS, h => by
   simp only [PT.ok, Bool.and_eq_true, beq_iff_eq] at hB
   refine wpAnyH_all hB.1 (by intro hn; rw [hn] at hB; simp at hB) (fun j hj => ?_)
   obtain ⟨o, ho, h⟩ := h j hj
   have hBj := List.all_eq_true.1 hB.2.2 j hj
   unfold wpOp
   rw [ho]
   have key : ∀ a' w', (S w' ∧ wpTree P ops Q S (f j) a' w') → (S w' ∧ wpAnyH P md ops Q S fuel (listed.setIfInBounds j true) a' w') :=
    fun a' w' ⟨h1, h2⟩ => ⟨h1, tree_sound hs hQ (f j) fuel _ _ _ hBj h1 h2⟩
   unfold wpList at h
   simp only
   split
   · rename_i hw
     rw [if_pos hw] at h
     rcases h with h | ⟨h1, h2⟩
     · refine .inl ?_
       have h' : o.wp P a w (fun a' w' => S w' ∧ wpTree P ops Q S (f j) a' w') Q := h
       exact Oper.wp_mono key h'
     · exact .inr ⟨h1, h2⟩
   · rename_i hw
     rw [if_neg hw] at h
     exact key _ _ h
theorem wp_region_tree {id : Nat} {l : List Oper} {a : Act} {w : World} (t : PT) (S : World → Prop) (hm : P.follows .mixedOrders = true) (hs : Region.noSelect l.toArray = true)
  (hB : PT.ok .any l.toArray t l.toArray.size (Array.replicate l.toArray.size false) = true) (hQ : ∀ c a d v w, Q (.panic c) (Act.put a d v) w → Q (.panic c) a w)
  (hS : S w.drew) (h : wpTree P l.toArray Q S t a w.drew) : (Code.region id l.toArray true).wp P Q a w :=
 wp_region_held (S := S) hm (tree_sound hs hQ t _ _ _ _ hB hS h)
theorem tree_nil {a : Act} {w : World} (h : Q .normal a w) : wpTree P ops Q S .done a w := h
theorem tree_q {i : Nat} {r : PT} {l : List Oper} {o : Oper} {v : Value} {a : Act} {w : World} (d : Option Tmp) (ho : l[i]? = some o) (hd : o.dst = d) (hw : Region.wanted o (yielded l.toArray a.tmps) = true) (hr : ∀ w', S w' → (execOp a.eval o).run P w' = .ok (.value v) w')
  (h : wpTree P l.toArray Q S r (a.put d v) w) : wpTree P l.toArray Q S (.q i r) a w := ⟨o, v, by simpa using ho, .inl ⟨hw, hr⟩, hd ▸ h⟩
theorem tree_e {i : Nat} {r : PT} {f : Nat → PT} {l : List Oper} {o : Oper} {a : Act} {w : World} (ho : l[i]? = some o) (hf : f i = r)
  (h : wpList P l.toArray (Exit.then (fun a' w' => S w' ∧ wpTree P l.toArray Q S r a' w') Q) [o] a w) : wpTree P l.toArray Q S (.br [i] f) a w := by
 intro j hj
 rw [List.mem_singleton.1 hj]
 exact ⟨o, by simpa using ho, hf ▸ h⟩
theorem tree_b {i : Nat} {r : PT} {m : List Nat} {f : Nat → PT} {l : List Oper} {o : Oper} {a : Act} {w : World} (ho : l[i]? = some o) (hf : f i = r)
  (h : wpList P l.toArray (Exit.then (fun a' w' => S w' ∧ wpTree P l.toArray Q S r a' w') Q) [o] a w) (hm : wpTree P l.toArray Q S (.br m f) a w) : wpTree P l.toArray Q S (.br (i :: m) f) a w := by
 intro j hj
 rcases List.mem_cons.1 hj with rfl | hj
 · exact ⟨o, by simpa using ho, hf ▸ h⟩
 · exact hm j hj
end
end Go.Proofs.KL
namespace Go.Proofs.KL
section
variable {P : Program} {Q : Exit → Act → World → Prop} {S : World → Prop} {i : Nat} {l : List Oper} {o : Oper} {v : Value} {a : Act} {w : World}
theorem pq {r : List (Nat × Bool)} (d : Option Tmp) (h : wpPerm P l.toArray Q S r (a.put d v) w) (ho : l[i]? = some o := by rfl) (hd : o.dst = d := by rfl) (hw : Region.wanted o (yielded l.toArray a.tmps) = true := by rfl)
    (hr : ∀ w', S w' → (execOp a.eval o).run P w' = .ok (.value v) w' := by (intro w' hS; first | (go_simp; done) | (go_simp; rfl))) : wpPerm P l.toArray Q S ((i, true) :: r) a w := perm_q d ho hd hw hr h
theorem tq {r : PT} (d : Option Tmp) (h : wpTree P l.toArray Q S r (a.put d v) w) (ho : l[i]? = some o := by rfl) (hd : o.dst = d := by rfl) (hw : Region.wanted o (yielded l.toArray a.tmps) = true := by rfl)
    (hr : ∀ w', S w' → (execOp a.eval o).run P w' = .ok (.value v) w' := by (intro w' hS; first | (go_simp; done) | (go_simp; rfl))) : wpTree P l.toArray Q S (.q i r) a w := tree_q d ho hd hw hr h
end
end Go.Proofs.KL

namespace Go.Proofs.WM

abbrev Bs := List UInt8
abbrev bl (s : ByteArray) : Bs := s.data.toList
inductive J where
 | mk (kind : Int) (b : Bool) (n : Int) (text : ByteArray) (keys : List ByteArray) (vals : List J)
instance : Inhabited J := ⟨.mk 0 false 0 ByteArray.empty [] []⟩
namespace J
def kind : J → Int | .mk k _ _ _ _ _ => k
def bool : J → Bool | .mk _ b _ _ _ _ => b
def int : J → Int | .mk _ _ n _ _ _ => n
def text : J → ByteArray | .mk _ _ _ t _ _ => t
def keys : J → List ByteArray | .mk _ _ _ _ ks _ => ks
def vals : J → List J | .mk _ _ _ _ _ vs => vs
end J
def hexB (n : UInt8) : UInt8 := if n < 10 then 48 + n else 87 + n
def esc (c : UInt8) : Bs :=
 if c = 34 ∨ c = 92 then [92, c] else if c = 10 then [92, 110] else if c < 32 ∨ 126 < c then [92, 117, 48, 48, hexB (c / 16), hexB (c % 16)] else [c]
def quoteB (s : Bs) : Bs := [34] ++ s.flatMap esc ++ [34]
def joinC : List Bs → Bs
 | [] => []
 | x :: r => x ++ r.flatMap (44 :: ·)
theorem joinC_snoc (l : List Bs) (x : Bs) : joinC (l ++ [x]) = if l = [] then x else joinC l ++ (44 :: x) := by
 cases l with
 | nil => simp [joinC]
 | cons y r => simp [joinC, List.flatMap_append]
def fineJ (k : Int) (b : Bool) (n : Int) (t : ByteArray) (ks : List ByteArray) (vs : Nat) : Bool :=
 decide (1 ≤ k ∧ k ≤ 6) && (!b || decide (k = 2)) && (decide (n = 0) || decide (k = 3)) && (decide (bl t = []) || decide (k = 4)) && (decide (ks = []) || decide (k = 6)) && (decide (vs = 0) || decide (5 ≤ k)) &&
  decide (-9007199254740991 ≤ n ∧ n ≤ 9007199254740991) && (!decide (k = 6) || decide (ks.length = vs)) && decide (ks.Nodup)
mutual
def formedJ : J → Bool
 | .mk k b n t ks vs => fineJ k b n t ks vs.length && formedL vs
def formedL : List J → Bool
 | [] => true
 | v :: r => formedJ v && formedL r
end
mutual
def levelsJ : J → Nat
 | .mk _ _ _ _ _ vs => 1 + levelsL vs
def levelsL : List J → Nat
 | [] => 0
 | v :: r => max (levelsJ v) (levelsL r)
end
mutual
def textJ : J → Bs
 | .mk k b n t ks vs =>
   if k = 1 then [110, 117, 108, 108] else if k = 2 then (if b then [116, 114, 117, 101] else [102, 97, 108, 115, 101]) else if k = 3 then Lib.itoa n else if k = 4 then quoteB (bl t)
   else if k = 5 then [91] ++ joinC (textL vs) ++ [93] else [123] ++ joinC (List.zipWith (fun q p => quoteB (bl q) ++ [58] ++ p) ks (textL vs)) ++ [125]
def textL : List J → List Bs
 | [] => []
 | v :: r => textJ v :: textL r
end
mutual
def sameJ : J → J → Bool
 | .mk k b n t ks vs, .mk k' b' n' t' ks' vs' => decide (k = k') && (b == b') && decide (n = n') && decide (t = t') && decide (ks = ks') && sameL vs vs'
def sameL : List J → List J → Bool
 | [], [] => true
 | v :: r, v' :: r' => sameJ v v' && sameL r r'
 | _, _ => false
end
mutual
def sizeJ : J → Nat
 | .mk _ _ _ t ks vs => 1 + t.size + ks.length + (ks.map ByteArray.size).sum + sizeL vs
def sizeL : List J → Nat
 | [] => 0
 | v :: r => sizeJ v + sizeL r
end
mutual
theorem sameJ_iff : ∀ a b : J, sameJ a b = true ↔ a = b
 | .mk k b n t ks vs, .mk k' b' n' t' ks' vs' => by
   unfold sameJ
   simp only [Bool.and_eq_true, decide_eq_true_eq, beq_iff_eq, sameL_iff vs vs', J.mk.injEq]
   constructor
   · rintro ⟨⟨⟨⟨⟨h1, h2⟩, h3⟩, h4⟩, h5⟩, h6⟩; exact ⟨h1, h2, h3, h4, h5, h6⟩
   · rintro ⟨h1, h2, h3, h4, h5, h6⟩; exact ⟨⟨⟨⟨⟨h1, h2⟩, h3⟩, h4⟩, h5⟩, h6⟩
theorem sameL_iff : ∀ a b : List J, sameL a b = true ↔ a = b
 | [], [] => by simp [sameL]
 | [], _ :: _ => by simp [sameL]
 | _ :: _, [] => by simp [sameL]
 | v :: r, v' :: r' => by
   unfold sameL
   simp only [Bool.and_eq_true, sameJ_iff v v', sameL_iff r r', List.cons.injEq]
end
theorem textL_length : ∀ vs : List J, (textL vs).length = vs.length
 | [] => rfl
 | v :: r => by unfold textL; simp [textL_length r]
def checkJ (v : J) : Int := if formedJ v = false then 4 else if 40 < levelsJ v ∨ 1000000 < (textJ v).length then 3 else 0
end Go.Proofs.WM

namespace Go.Proofs.WM

abbrev R (α : Type) := Except Nat (α × Bs)
def isBlank (c : UInt8) : Bool := c == 32 || c == 9 || c == 10 || c == 13
def blanksB : Bs → Bs
 | [] => []
 | c :: r => if isBlank c then blanksB r else c :: r
def wordB : Bs → Bs → Except Nat Bs
 | [], r => .ok r
 | _ :: _, [] => .error 0
 | c :: w, d :: r => if d = c then wordB w r else .error (r.length + 1)
def isDigit (c : UInt8) : Bool := decide (48 ≤ c) && decide (c ≤ 57)
def digB (c : UInt8) : Nat := c.toNat - 48
def numB (minus : Bool) : Bool → Nat → Bs → R Nat
 | _, n, [] => .ok (n, [])
 | first, n, c :: r =>
   if isDigit c then
    if (first = false ∧ n = 0) ∨ (minus = true ∧ first = true ∧ c = 48) ∨ 9007199254740991 < n * 10 + digB c then .error (r.length + 1) else numB minus false (n * 10 + digB c) r
   else .ok (n, c :: r)
def startsDigit : Bs → Bool
 | [] => false
 | c :: _ => isDigit c
def digitsB (minus : Bool) (r : Bs) : R Nat := if startsDigit r then numB minus true 0 r else .error r.length
def intB : Bs → R Int
 | 45 :: r => match digitsB true r with
   | .ok (n, r1) => .ok (-(n : Int), r1)
   | .error e => .error e
 | r => match digitsB false r with
   | .ok (n, r1) => .ok ((n : Int), r1)
   | .error e => .error e
def shortB (c : UInt8) : Option UInt8 :=
 if c = 34 then some 34 else if c = 92 then some 92 else if c = 47 then some 47 else if c = 98 then some 8 else if c = 102 then some 12 else if c = 110 then some 10 else if c = 114 then some 13 else if c = 116 then some 9 else none
def hexD (c : UInt8) : Option Nat :=
 if 48 ≤ c ∧ c ≤ 57 then some (c.toNat - 48) else if 97 ≤ c ∧ c ≤ 102 then some (c.toNat - 87) else if 65 ≤ c ∧ c ≤ 70 then some (c.toNat - 55) else none
def hexB4 : Nat → Nat → Bs → R Nat
 | 0, n, r => .ok (n, r)
 | _ + 1, _, [] => .error 0
 | k + 1, n, c :: r => match hexD c with
   | none => .error (r.length + 1)
   | some d => if k = 0 ∧ 255 < n * 16 + d then .error (r.length + 1) else hexB4 k (n * 16 + d) r
def escB : Bs → R UInt8
 | [] => .error 0
 | c :: r => match shortB c with
   | some b => .ok (b, r)
   | none => if c = 117 then (match hexB4 4 0 r with
     | .ok (n, r1) => .ok (UInt8.ofNat n, r1)
     | .error e => .error e) else .error (r.length + 1)
def strGo : Nat → Bs → Bs → R Bs
 | 0, _, r => .error r.length
 | _ + 1, _, [] => .error 0
 | f + 1, acc, c :: r =>
   if c = 34 then .ok (acc, r) else if c < 32 then .error (r.length + 1)
   else if c = 92 then (match escB r with
    | .ok (b, r1) => strGo f (acc ++ [b]) r1
    | .error e => .error e)
   else strGo f (acc ++ [c]) r
def strB (r : Bs) : R Bs := match wordB [34] r with
 | .ok r1 => strGo (r1.length + 1) [] r1
 | .error e => .error e
def mkB (s : Bs) : ByteArray := ⟨s.toArray⟩
inductive More where
 | done (r : Bs)
 | more (r : Bs)
 | bad (e : Nat)
def moreB (close : UInt8) (r : Bs) : More := match blanksB r with
 | [] => .bad 0
 | c :: q => if c = close then .done q else if c = 44 then .more (blanksB q) else .bad (q.length + 1)
def openB (close : UInt8) (r : Bs) : Option Bs := match blanksB r with
 | c :: q => if c = close then some q else none
 | [] => none
def hasKey (ks : List ByteArray) (k : ByteArray) : Bool := ks.any fun x => decide (x = k)
def keyB (seen : List ByteArray) (r : Bs) : R ByteArray := match strB r with
 | .error e => .error e
 | .ok (s, r1) => if hasKey seen (mkB s) then .error (r1.length + 1) else match wordB [58] (blanksB r1) with
   | .error e => .error e
   | .ok r2 => .ok (mkB s, blanksB r2)
mutual
def valueF : Nat → Nat → Bs → R J
 | 0, _, r => .error r.length
 | _ + 1, _, [] => .error 0
 | f + 1, deep, c :: q =>
   if c = 110 then (match wordB [110, 117, 108, 108] (c :: q) with | .ok r => .ok (.mk 1 false 0 ByteArray.empty [] [], r) | .error e => .error e)
   else if c = 116 then (match wordB [116, 114, 117, 101] (c :: q) with | .ok r => .ok (.mk 2 true 0 ByteArray.empty [] [], r) | .error e => .error e)
   else if c = 102 then (match wordB [102, 97, 108, 115, 101] (c :: q) with | .ok r => .ok (.mk 2 false 0 ByteArray.empty [] [], r) | .error e => .error e)
   else if c = 34 then (match strB (c :: q) with | .ok (s, r) => .ok (.mk 4 false 0 (mkB s) [] [], r) | .error e => .error e)
   else if c = 45 ∨ isDigit c = true then (match intB (c :: q) with | .ok (n, r) => .ok (.mk 3 false n ByteArray.empty [] [], r) | .error e => .error e)
   else if c = 91 then (match openB 93 q with
    | some r => .ok (.mk 5 false 0 ByteArray.empty [] [], r)
    | none => match itemsF f deep [] (blanksB q) with
      | .ok (vs, r) => .ok (.mk 5 false 0 ByteArray.empty [] vs, r)
      | .error e => .error e)
   else if c = 123 then (match openB 125 q with
    | some r => .ok (.mk 6 false 0 ByteArray.empty [] [], r)
    | none => match pairsF f deep [] [] (blanksB q) with
      | .ok ((ks, vs), r) => .ok (.mk 6 false 0 ByteArray.empty ks vs, r)
      | .error e => .error e)
   else .error (q.length + 1)
def innerF : Nat → Nat → Bs → R J
 | 0, _, r => .error r.length
 | f + 1, deep, r => if deep ≤ 1 then .error r.length else valueF f (deep - 1) r
def itemsF : Nat → Nat → List J → Bs → R (List J)
 | 0, _, _, r => .error r.length
 | f + 1, deep, acc, r => match innerF f deep r with
   | .error e => .error e
   | .ok (v, r1) => match moreB 93 r1 with
     | .done r2 => .ok (acc ++ [v], r2)
     | .bad e => .error e
     | .more r2 => itemsF f deep (acc ++ [v]) r2
def pairsF : Nat → Nat → List ByteArray → List J → Bs → R (List ByteArray × List J)
 | 0, _, _, _, r => .error r.length
 | f + 1, deep, ks, vs, r => match keyB ks r with
   | .error e => .error e
   | .ok (k, r0) => match innerF f deep r0 with
     | .error e => .error e
     | .ok (v, r1) => match moreB 125 r1 with
       | .done r2 => .ok ((ks ++ [k], vs ++ [v]), r2)
       | .bad e => .error e
       | .more r2 => pairsF f deep (ks ++ [k]) (vs ++ [v]) r2
end
def readJ (t : Bs) : Except Nat J := match valueF (4 * t.length + 8) 40 (blanksB t) with
 | .error e => .error (t.length - e)
 | .ok (v, r) => match blanksB r with
   | [] => .ok v
   | _ :: q => .error (t.length - (q.length + 1))
end Go.Proofs.WM

namespace Go.Proofs.WM

theorem blanksB_le : ∀ r : Bs, (blanksB r).length ≤ r.length
 | [] => Nat.le_refl _
 | c :: r => by unfold blanksB; split; exact Nat.le_succ_of_le (blanksB_le r); exact Nat.le_refl _
theorem wordB_len : ∀ (w r r' : Bs), wordB w r = .ok r' → r = w ++ r'
 | [], r, r', h => by unfold wordB at h; injection h
 | c :: w, [], r', h => by unfold wordB at h; cases h
 | c :: w, d :: r, r', h => by
   unfold wordB at h
   split at h
   · rename_i e; subst e; rw [wordB_len w r r' h, List.cons_append]
   · cases h
theorem numB_len {minus : Bool} : ∀ (r : Bs) (first : Bool) (n m : Nat) (r' : Bs), numB minus first n r = .ok (m, r') → n ≤ 9007199254740991 → m ≤ 9007199254740991 ∧ r'.length ≤ r.length
 | [], first, n, m, r', h, hn => by unfold numB at h; injection h with h; injection h with h1 h2; subst h1; subst h2; exact ⟨hn, Nat.le_refl _⟩
 | c :: r, first, n, m, r', h, hn => by
   unfold numB at h
   split at h
   · split at h
     · cases h
     · rename_i h2
       have := numB_len r false _ m r' h (by simp only [not_or] at h2; omega)
       exact ⟨this.1, Nat.le_succ_of_le this.2⟩
   · injection h with h; injection h with h1 h2; subst h1; subst h2; exact ⟨hn, Nat.le_refl _⟩
theorem digitsB_len {minus : Bool} {r r' : Bs} {m : Nat} (h : digitsB minus r = .ok (m, r')) : m ≤ 9007199254740991 ∧ r'.length < r.length := by
 unfold digitsB at h
 cases r with
 | nil => simp [startsDigit] at h
 | cons c r =>
   split at h
   · rename_i hs
     unfold numB at h
     rw [if_pos (by simpa [startsDigit] using hs)] at h
     split at h
     · cases h
     · rename_i h2
       have := numB_len r false _ m r' h (by simp only [not_or] at h2; omega)
       exact ⟨this.1, Nat.lt_succ_of_le this.2⟩
   · cases h
theorem intB_len {r r' : Bs} {n : Int} (h : intB r = .ok (n, r')) : (-9007199254740991 ≤ n ∧ n ≤ 9007199254740991) ∧ r'.length < r.length := by
 unfold intB at h
 split at h
 · rename_i q
   rcases hd : digitsB true q with e | ⟨m, r1⟩
   · rw [hd] at h; cases h
   · rw [hd] at h; injection h with h; injection h with h1 h2; subst h1; subst h2
     have := digitsB_len hd
     exact ⟨by omega, by simp only [List.length_cons]; omega⟩
 · rcases hd : digitsB false r with e | ⟨m, r1⟩
   · rw [hd] at h; cases h
   · rw [hd] at h; injection h with h; injection h with h1 h2; subst h1; subst h2
     have := digitsB_len hd
     exact ⟨by omega, this.2⟩
theorem hexB4_len : ∀ (k n : Nat) (r r' : Bs) (m : Nat), hexB4 k n r = .ok (m, r') → r'.length + k = r.length
 | 0, n, r, r', m, h => by unfold hexB4 at h; injection h with h; injection h with h1 h2; subst h2; rfl
 | k + 1, n, [], r', m, h => by unfold hexB4 at h; cases h
 | k + 1, n, c :: r, r', m, h => by
   unfold hexB4 at h
   split at h
   · cases h
   · split at h
     · cases h
     · have := hexB4_len k _ r r' m h; simp only [List.length_cons]; omega
theorem escB_len {r r' : Bs} {b : UInt8} (h : escB r = .ok (b, r')) : r'.length < r.length := by
 unfold escB at h
 split at h
 · cases h
 · split at h
   · injection h with h; injection h with h1 h2; subst h2; simp
   · split at h
     · rename_i c q _ _ _
       rcases hd : hexB4 4 0 q with e | ⟨m, r1⟩
       · rw [hd] at h; cases h
       · rw [hd] at h; injection h with h; injection h with h1 h2; subst h2
         have := hexB4_len 4 0 q _ m hd; simp only [List.length_cons]; omega
     · cases h
theorem strGo_len : ∀ (f : Nat) (acc r s r' : Bs), strGo f acc r = .ok (s, r') → r'.length < r.length ∧ s.length + r'.length < acc.length + r.length
 | 0, acc, r, s, r', h => by unfold strGo at h; cases h
 | f + 1, acc, [], s, r', h => by unfold strGo at h; cases h
 | f + 1, acc, c :: r, s, r', h => by
   unfold strGo at h
   split at h
   · injection h with h; injection h with h1 h2; subst h1; subst h2; simp only [List.length_cons]; omega
   · split at h
     · cases h
     · split at h
       · rcases hd : escB r with e | ⟨b, r1⟩
         · rw [hd] at h; cases h
         · rw [hd] at h
           have h1 := escB_len hd
           have := strGo_len f _ r1 s r' h
           simp only [List.length_append, List.length_cons, List.length_nil] at this ⊢
           omega
       · have := strGo_len f _ r s r' h
         simp only [List.length_append, List.length_cons, List.length_nil] at this ⊢
         omega
theorem strB_len {r s r' : Bs} (h : strB r = .ok (s, r')) : r'.length + 2 ≤ r.length ∧ s.length + 2 + r'.length ≤ r.length := by
 unfold strB at h
 rcases hw : wordB [34] r with e | r1
 · rw [hw] at h; cases h
 · rw [hw] at h
   have h1 := wordB_len _ _ _ hw
   have := strGo_len _ _ _ _ _ h
   rw [h1]
   simp only [List.length_append, List.length_cons, List.length_nil] at this ⊢
   omega
theorem esc_len (c : UInt8) : 1 ≤ (esc c).length ∧ (esc c).length ≤ 6 := by
 unfold esc
 split
 · simp
 · split
   · simp
   · split <;> simp
theorem quoteB_len (s : Bs) : (quoteB s).length ≤ 6 * s.length + 2 := by
 unfold quoteB
 have : ∀ l : Bs, (l.flatMap esc).length ≤ 6 * l.length := fun l => by
  induction l with
  | nil => simp
  | cons c l ih => have := (esc_len c).2; simp only [List.flatMap_cons, List.length_append, List.length_cons]; omega
 have := this s
 simp only [List.length_append, List.length_cons, List.length_nil]
 omega
theorem moreB_len {c : UInt8} {r r' : Bs} (h : moreB c r = .done r' ∨ moreB c r = .more r') : r'.length < r.length := by
 unfold moreB at h
 have hb := blanksB_le r
 split at h
 · rcases h with h | h <;> cases h
 · rename_i d q hq
   rw [hq] at hb
   simp only [List.length_cons] at hb
   split at h
   · rcases h with h | h
     · injection h with h; subst h; omega
     · cases h
   · split at h
     · rcases h with h | h
       · cases h
       · injection h with h; subst h; have := blanksB_le q; omega
     · rcases h with h | h <;> cases h
theorem openB_len {c : UInt8} {r r' : Bs} (h : openB c r = some r') : r'.length < r.length := by
 unfold openB at h
 have hb := blanksB_le r
 split at h
 · rename_i d q hq
   rw [hq] at hb
   simp only [List.length_cons] at hb
   split at h
   · injection h with h; subst h; omega
   · cases h
 · cases h
theorem hasKey_iff (ks : List ByteArray) (k : ByteArray) : hasKey ks k = true ↔ k ∈ ks := by
 unfold hasKey
 simp [List.any_eq_true]
theorem keyB_len {ks : List ByteArray} {r r' : Bs} {k : ByteArray} (h : keyB ks r = .ok (k, r')) : r'.length < r.length ∧ (quoteB (bl k)).length + 1 ≤ 6 * (r.length - r'.length) ∧ k ∉ ks := by
 unfold keyB at h
 rcases hs : strB r with e | ⟨s, r1⟩
 · rw [hs] at h; cases h
 · rw [hs] at h
   simp only at h
   split at h
   · cases h
   · rename_i hk
     rcases hw : wordB [58] (blanksB r1) with e | r2
     · rw [hw] at h; cases h
     · rw [hw] at h
       injection h with h; injection h with h1 h2; subst h1; subst h2
       have a1 := strB_len hs
       have a2 := wordB_len _ _ _ hw
       have a3 := blanksB_le r1
       have a4 := blanksB_le r2
       have a5 := quoteB_len s
       rw [a2] at a3
       simp only [List.length_append, List.length_cons, List.length_nil] at a3
       refine ⟨by omega, ?_, fun hm => hk ((hasKey_iff _ _).2 hm)⟩
       show (quoteB s).length + 1 ≤ _
       omega
theorem levelsL_append : ∀ a b : List J, levelsL (a ++ b) = max (levelsL a) (levelsL b)
 | [], b => by simp [levelsL]
 | v :: r, b => by simp [levelsL, levelsL_append r b, Nat.max_assoc]
theorem itoa_len {n : Int} (h : -9007199254740991 ≤ n ∧ n ≤ 9007199254740991) : (Lib.itoa n).length ≤ 17 := by
 have key : ∀ u : Nat, u ≤ 9007199254740991 → Lib.nDigits u ≤ 16 := fun u hu => by
  rcases Nat.lt_or_ge (Lib.nDigits u) 17 with h | h
  · omega
  · exfalso
    have h1 := Lib.lt_pow_nDigits u
    have h2 : ¬ 10 ^ 16 ≤ u := by omega
    have h3 : Lib.nDigits u ≤ 16 := by
     rcases Nat.lt_or_ge u 10 with h10 | h10
     · rw [Lib.nDigits_small h10]; omega
     · have hk : ∃ k, 10 ^ k ≤ u ∧ u < 10 ^ (k + 1) := ⟨Lib.nDigits u - 1, by
        have := Lib.nDigits_pos u
        exact ⟨by
         rcases Nat.lt_or_ge u (10 ^ (Lib.nDigits u - 1)) with hl | hl
         · exfalso
           have : ∀ k, u < 10 ^ k → 1 ≤ k → Lib.nDigits u ≤ k := fun k => by
            intro hk h1
            rcases Nat.lt_or_ge (Lib.nDigits u) (k + 1) with h | h
            · omega
            · exfalso
              obtain ⟨j, hj⟩ : ∃ j, 10 ^ j ≤ u ∧ u < 10 ^ (j + 1) := by
               have : ∀ k, u < 10 ^ k → ∃ j, j < k ∧ 10 ^ j ≤ u ∧ u < 10 ^ (j + 1) := fun k => by
                induction k with
                | zero => intro h; simp at h; omega
                | succ k ih =>
                  intro h
                  rcases Nat.lt_or_ge u (10 ^ k) with h' | h'
                  · obtain ⟨j, a, b, c⟩ := ih h'; exact ⟨j, by omega, b, c⟩
                  · exact ⟨k, by omega, h', h⟩
               obtain ⟨j, _, b, c⟩ := this k hk
               exact ⟨j, b, c⟩
              have e := Lib.nDigits_unique j u hj.1 hj.2
              have : 10 ^ j ≤ u := hj.1
              have h5 : j < k := by
               rcases Nat.lt_or_ge j k with h | h
               · exact h
               · exact absurd (Nat.lt_of_lt_of_le hk (Nat.pow_le_pow_right (by omega) h)) (by omega)
              omega
           have h6 := this (Lib.nDigits u - 1) hl (by omega)
           omega
         · exact hl, by rw [show Lib.nDigits u - 1 + 1 = Lib.nDigits u by omega]; exact h1⟩⟩
       obtain ⟨k, a, b⟩ := hk
       have e := Lib.nDigits_unique k u a b
       rcases Nat.lt_or_ge k 16 with h | h
       · omega
       · exact absurd (Nat.le_trans (Nat.pow_le_pow_right (by omega) h) a) h2
    omega
 unfold Lib.itoa
 split
 · simp only [List.length_cons, Lib.decDigits_length]
   have := key n.natAbs (by omega)
   omega
 · rw [Lib.decDigits_length]
   have := key n.toNat (by omega)
   omega
def lens (l : List Bs) : Nat := (l.map List.length).sum
theorem lens_append (a b : List Bs) : lens (a ++ b) = lens a + lens b := by simp [lens]
theorem joinC_len (l : List Bs) : (joinC l).length ≤ lens l + l.length := by
 cases l with
 | nil => simp [joinC]
 | cons x r =>
   have : ∀ r : List Bs, (r.flatMap (44 :: ·)).length = lens r + r.length := fun r => by
    induction r with
    | nil => simp [lens]
    | cons y r ih => simp only [List.flatMap_cons, List.length_append, List.length_cons, lens, List.map_cons, List.sum_cons] at ih ⊢; omega
   have h := this r
   simp only [joinC, List.length_append, List.length_cons, lens, List.map_cons, List.sum_cons] at h ⊢
   omega
def quotes (ks : List ByteArray) : Nat := (ks.map fun k => (quoteB (bl k)).length + 1).sum
theorem zip_len : ∀ (ks : List ByteArray) (ps : List Bs), lens (List.zipWith (fun q p => quoteB (bl q) ++ [58] ++ p) ks ps) ≤ quotes ks + lens ps
 | [], ps => by simp [lens]
 | k :: ks, [] => by simp [lens]
 | k :: ks, p :: ps => by
   have := zip_len ks ps
   simp only [List.zipWith_cons_cons, lens, quotes, List.map_cons, List.sum_cons, List.length_append, List.length_cons, List.length_nil] at this ⊢
   omega
def RV (deep : Nat) (r : Bs) (v : J) (r' : Bs) : Prop := r'.length < r.length ∧ formedJ v = true ∧ levelsJ v ≤ deep ∧ (textJ v).length ≤ 17 * (r.length - r'.length)
theorem plainV {k : Int} {b : Bool} {n : Int} {t : ByteArray} {deep : Nat} {r r' : Bs} (hf : fineJ k b n t [] 0 = true) (hl : r'.length < r.length) (hd : 1 ≤ deep) (ht : (textJ (.mk k b n t [] [])).length ≤ 17 * (r.length - r'.length)) : RV deep r (.mk k b n t [] []) r' :=
 ⟨hl, by unfold formedJ; rw [show ([] : List J).length = 0 from rfl, hf]; rfl, by unfold levelsJ levelsL; omega, ht⟩
theorem read_ok : ∀ f : Nat,
  (∀ deep r v r', 1 ≤ deep → valueF f deep r = .ok (v, r') → RV deep r v r') ∧
  (∀ deep r v r', innerF f deep r = .ok (v, r') → 2 ≤ deep ∧ RV (deep - 1) r v r') ∧
  (∀ deep acc r vs r', itemsF f deep acc r = .ok (vs, r') → ∃ ws, vs = acc ++ ws ∧ r'.length < r.length ∧ formedL ws = true ∧ levelsL ws + 1 ≤ deep ∧ lens (textL ws) + ws.length ≤ 17 * (r.length - r'.length)) ∧
  (∀ deep ks vs r ks' vs' r', pairsF f deep ks vs r = .ok ((ks', vs'), r') → ∃ kn wn, ks' = ks ++ kn ∧ vs' = vs ++ wn ∧ kn.length = wn.length ∧ r'.length < r.length ∧ (ks.Nodup → ks'.Nodup) ∧ formedL wn = true ∧ levelsL wn + 1 ≤ deep ∧ quotes kn + lens (textL wn) + wn.length ≤ 17 * (r.length - r'.length)) := by
 intro f
 induction f with
 | zero =>
   refine ⟨fun deep r v r' _ h => ?_, fun deep r v r' h => ?_, fun deep acc r vs r' h => ?_, fun deep ks vs r ks' vs' r' h => ?_⟩
   · unfold valueF at h; cases h
   · unfold innerF at h; cases h
   · unfold itemsF at h; cases h
   · unfold pairsF at h; cases h
 | succ f ih =>
   obtain ⟨ihV, ihI, ihL, ihP⟩ := ih
   refine ⟨fun deep r v r' hd h => ?_, fun deep r v r' h => ?_, fun deep acc r vs r' h => ?_, fun deep ks vs r ks' vs' r' h => ?_⟩
   · cases r with
     | nil => unfold valueF at h; cases h
     | cons c q =>
       unfold valueF at h
       split at h
       · rcases hw : wordB [110, 117, 108, 108] (c :: q) with e | r1
         · rw [hw] at h; cases h
         · rw [hw] at h; injection h with h; injection h with h1 h2; subst h1; subst h2
           have := wordB_len _ _ _ hw
           refine plainV (by decide) ?_ hd ?_ <;> (rw [this]; simp [textJ]; try omega)
       split at h
       · rcases hw : wordB [116, 114, 117, 101] (c :: q) with e | r1
         · rw [hw] at h; cases h
         · rw [hw] at h; injection h with h; injection h with h1 h2; subst h1; subst h2
           have := wordB_len _ _ _ hw
           refine plainV (by decide) ?_ hd ?_ <;> (rw [this]; simp [textJ]; try omega)
       split at h
       · rcases hw : wordB [102, 97, 108, 115, 101] (c :: q) with e | r1
         · rw [hw] at h; cases h
         · rw [hw] at h; injection h with h; injection h with h1 h2; subst h1; subst h2
           have := wordB_len _ _ _ hw
           refine plainV (by decide) ?_ hd ?_ <;> (rw [this]; simp [textJ]; try omega)
       split at h
       · rcases hw : strB (c :: q) with e | ⟨s, r1⟩
         · rw [hw] at h; cases h
         · rw [hw] at h; injection h with h; injection h with h1 h2; subst h1; subst h2
           have := strB_len hw
           have h3 := quoteB_len s
           refine plainV (by simp [fineJ]) (by omega) hd ?_
           show (quoteB s).length ≤ _
           omega
       split at h
       · rcases hw : intB (c :: q) with e | ⟨n, r1⟩
         · rw [hw] at h; cases h
         · rw [hw] at h; injection h with h; injection h with h1 h2; subst h1; subst h2
           have := intB_len hw
           have h3 := itoa_len this.1
           refine plainV (by have := this.1; simp [fineJ, this]) this.2 hd ?_
           show (Lib.itoa n).length ≤ _
           omega
       split at h
       · rcases ho : openB 93 q with _ | r1
         · rw [ho] at h
           rcases hi : itemsF f deep [] (blanksB q) with e | ⟨vs, r1⟩
           · rw [hi] at h; cases h
           · rw [hi] at h; injection h with h; injection h with h1 h2; subst h1; subst h2
             obtain ⟨ws, e, h1, h2, h3, h4⟩ := ihL _ _ _ _ _ hi
             simp only [List.nil_append] at e; subst e
             have hb := blanksB_le q
             have hj := joinC_len (textL vs)
             rw [textL_length] at hj
             refine ⟨by simp only [List.length_cons]; omega, ?_, ?_, ?_⟩
             · unfold formedJ; rw [h2]; simp [fineJ]
             · unfold levelsJ; omega
             · unfold textJ
               rw [if_neg (by decide), if_neg (by decide), if_neg (by decide), if_neg (by decide), if_pos rfl]
               simp only [List.length_append, List.length_cons, List.length_nil]
               omega
         · rw [ho] at h; injection h with h; injection h with h1 h2; subst h1; subst h2
           have := openB_len ho
           refine plainV (by decide) (by simp only [List.length_cons]; omega) hd ?_
           simp [textJ, joinC, textL]; omega
       split at h
       · rcases ho : openB 125 q with _ | r1
         · rw [ho] at h
           rcases hi : pairsF f deep [] [] (blanksB q) with e | ⟨⟨ks, vs⟩, r1⟩
           · rw [hi] at h; cases h
           · rw [hi] at h; injection h with h; injection h with h1 h2; subst h1; subst h2
             obtain ⟨kn, wn, e1, e2, hl, h1, h5, h2, h3, h4⟩ := ihP _ _ _ _ _ _ _ hi
             simp only [List.nil_append] at e1 e2; subst e1; subst e2
             have hb := blanksB_le q
             have hj := joinC_len (List.zipWith (fun q p => quoteB (bl q) ++ [58] ++ p) ks (textL vs))
             have hz := zip_len ks (textL vs)
             rw [List.length_zipWith, textL_length, hl, Nat.min_self] at hj
             refine ⟨by simp only [List.length_cons]; omega, ?_, ?_, ?_⟩
             · unfold formedJ; rw [h2]; simp [fineJ, hl, h5 List.nodup_nil]
             · unfold levelsJ; omega
             · unfold textJ
               rw [if_neg (by decide), if_neg (by decide), if_neg (by decide), if_neg (by decide), if_neg (by decide)]
               simp only [List.length_append, List.length_cons, List.length_nil] at hj ⊢
               omega
         · rw [ho] at h; injection h with h; injection h with h1 h2; subst h1; subst h2
           have := openB_len ho
           refine plainV (by decide) (by simp only [List.length_cons]; omega) hd ?_
           simp [textJ, joinC, textL]; omega
       · cases h
   · unfold innerF at h
     split at h
     · cases h
     · exact ⟨by omega, ihV _ _ _ _ (by omega) h⟩
   · unfold itemsF at h
     rcases hi : innerF f deep r with e | ⟨v, r1⟩
     · rw [hi] at h; cases h
     · rw [hi] at h
       simp only at h
       obtain ⟨h2d, a1, a2, a3, a4⟩ := ihI _ _ _ _ hi
       rcases hm : moreB 93 r1 with r2 | r2 | e
       · rw [hm] at h; injection h with h; injection h with h1 h2; subst h1; subst h2
         have := moreB_len (.inl hm)
         refine ⟨[v], rfl, by omega, by simp [formedL, a2], by simp [levelsL]; omega, ?_⟩
         simp [textL, lens]; omega
       · rw [hm] at h
         have := moreB_len (.inr hm)
         obtain ⟨ws, e, b1, b2, b3, b4⟩ := ihL _ _ _ _ _ h
         refine ⟨v :: ws, by rw [e]; simp, by omega, by simp [formedL, a2, b2], by simp only [levelsL]; omega, ?_⟩
         simp only [textL, lens, List.map_cons, List.sum_cons, List.length_cons] at b4 ⊢; omega
       · rw [hm] at h; cases h
   · unfold pairsF at h
     rcases hk : keyB ks r with e | ⟨k, r0⟩
     · rw [hk] at h; cases h
     · rw [hk] at h
       simp only at h
       obtain ⟨k1, k2, k3⟩ := keyB_len hk
       rcases hi : innerF f deep r0 with e | ⟨v, r1⟩
       · rw [hi] at h; cases h
       · rw [hi] at h
         simp only at h
         obtain ⟨h2d, a1, a2, a3, a4⟩ := ihI _ _ _ _ hi
         have hnd : ks.Nodup → (ks ++ [k]).Nodup := fun hn => by
          rw [List.nodup_append]
          exact ⟨hn, by simp, fun a ha b hb => by simp at hb; subst hb; exact fun e => k3 (e ▸ ha)⟩
         rcases hm : moreB 125 r1 with r2 | r2 | e
         · rw [hm] at h; injection h with h; injection h with h1 h2; injection h1 with h1 h3; subst h1; subst h2; subst h3
           have := moreB_len (.inl hm)
           refine ⟨[k], [v], rfl, rfl, rfl, by omega, hnd, by simp [formedL, a2], by simp [levelsL]; omega, ?_⟩
           simp [textL, lens, quotes]; omega
         · rw [hm] at h
           have := moreB_len (.inr hm)
           obtain ⟨kn, wn, e1, e2, hl, b1, b5, b2, b3, b4⟩ := ihP _ _ _ _ _ _ _ h
           refine ⟨k :: kn, v :: wn, by rw [e1]; simp, by rw [e2]; simp, by simp [hl], by omega, fun hn => b5 (hnd hn), by simp [formedL, a2, b2], by simp only [levelsL]; omega, ?_⟩
           simp only [textL, lens, quotes, List.map_cons, List.sum_cons, List.length_cons] at b4 ⊢; omega
         · rw [hm] at h; cases h
theorem readJ_check {t : Bs} {v : J} (h : readJ t = .ok v) (hl : t.length ≤ 3000) : formedJ v = true ∧ levelsJ v ≤ 40 ∧ (textJ v).length ≤ 51000 ∧ checkJ v = 0 := by
 unfold readJ at h
 rcases hv : valueF (4 * t.length + 8) 40 (blanksB t) with e | ⟨w, r⟩
 · rw [hv] at h; cases h
 · rw [hv] at h
   simp only at h
   obtain ⟨h1, h2, h3, h4⟩ := (read_ok _).1 _ _ _ _ (by decide) hv
   have hb := blanksB_le t
   split at h
   · injection h with h; subst h
     have h5 : (textJ w).length ≤ 51000 := by omega
     exact ⟨h2, h3, h5, by unfold checkJ; rw [if_neg (by rw [h2]; decide), if_neg (by omega)]⟩
   · cases h
end Go.Proofs.WM

namespace Go.Proofs.KL
open Go.RowKit Go.Proofs.WM

theorem bytes_beq (a b : ByteArray) : (a == b) = decide (a = b) := by
 obtain ⟨a⟩ := a
 obtain ⟨b⟩ := b
 have h : ((⟨a⟩ : ByteArray) == ⟨b⟩) = (a == b) := rfl
 rw [h, Bool.eq_iff_iff]
 simp
structure StrSet (es : List MapEntry) (ks : List ByteArray) : Prop where
 keys : es.map (·.key) = ks.map Value.string
 vals : ∀ e ∈ es, e.val = .bool true
theorem StrSet.nil : StrSet [] [] := ⟨rfl, fun _ h => by cases h⟩
theorem StrSet.push {es : List MapEntry} {ks : List ByteArray} (h : StrSet es ks) (q : ByteArray) (c : Nat) : StrSet (es ++ [{ key := .string q, val := .bool true, born := c }]) (ks ++ [q]) :=
 ⟨by rw [List.map_append, List.map_append, h.keys]; rfl, fun e he => by
  rcases List.mem_append.1 he with he | he
  · exact h.vals e he
  · rw [List.mem_singleton.1 he]⟩
theorem hasKey_cons (k : ByteArray) (ks : List ByteArray) (q : ByteArray) : hasKey (k :: ks) q = (decide (k = q) || hasKey ks q) := by simp [hasKey]
theorem findNow_str (q : ByteArray) : ∀ (es : List MapEntry) (ks : List ByteArray) (i : Nat), StrSet es ks → (hasKey ks q = false → Instr.findNow .string (.string q) es i = some none) ∧ (hasKey ks q = true → ∃ j, Instr.findNow .string (.string q) es i = some (some (j, .bool true)))
 | [], ks, i, h => by
   cases ks with
   | nil => exact ⟨fun _ => rfl, fun h => by cases h⟩
   | cons k ks => have := h.keys; simp at this
 | e :: es, ks, i, h => by
   cases ks with
   | nil => have := h.keys; simp at this
   | cons k ks =>
     have hk := h.keys
     simp only [List.map_cons, List.cons.injEq] at hk
     have ih := findNow_str q es ks (i + 1) ⟨hk.2, fun e he => h.vals e (List.mem_cons_of_mem _ he)⟩
     have hv := h.vals e List.mem_cons_self
     rw [hasKey_cons]
     unfold Instr.findNow
     have hs : Instr.sameNow .string (.string q) e.key = some (decide (q = k)) := by rw [hk.1]; show some (q == k) = _; rw [bytes_beq]
     rw [hs]
     by_cases e1 : q = k
     · subst e1
       simp only [decide_true, Bool.true_or]
       exact ⟨fun h => (by cases h), fun _ => ⟨i, by rw [hv]⟩⟩
     · rw [decide_eq_false e1, decide_eq_false (fun h => e1 h.symm), Bool.false_or]
       exact ih
section
variable {P : Program} {ops : Array Oper} {rest : List Oper} {o : Oper} {a : Act} {Q : Exit → Act → World → Prop} {W : World} {t K E : TypeId} {m : Nat} {es : Array MapEntry} {c : Nat} {ks : List ByteArray}
theorem run_checkKey_str (hk : P.underlying K = some .string) (b : Bool) (q : ByteArray) : (Instr.checkKey b 10000 K (.string q)).run P W = .ok () W := by
 unfold Instr.checkKey
 simp [run_underlying hk]
theorem run_findKey_str (hk : P.underlying K = some .string) (hs : StrSet es.toList ks) (q : ByteArray) : ∃ r : Option (Nat × Value), (Instr.findKey K (.string q) es.toList).run P W = .ok r W ∧ (hasKey ks q = false → r = none) ∧ (hasKey ks q = true → ∃ j, r = some (j, .bool true)) := by
 obtain ⟨h1, h2⟩ := findNow_str q es.toList ks 0 hs
 unfold Instr.findKey
 rcases hq : hasKey ks q with _ | _
 · refine ⟨none, ?_, fun _ => rfl, fun h => (by cases h)⟩
   simp [run_underlying hk, h1 hq]
 · obtain ⟨j, hj⟩ := h2 hq
   refine ⟨some (j, .bool true), ?_, fun h => (by cases h), fun _ => ⟨j, rfl⟩⟩
   simp [run_underlying hk, hj]
theorem ev_lookup_set {mo ko : Operand} (hgd : o.guard = none) (ho : o.op = .lookup t mo ko false) (ht : P.underlying t = some (.map K E)) (hk : P.underlying K = some .string) (hz : (P.info? E).map (·.zero) = some (some (.bool false)))
  {q : ByteArray} (hm : a.eval mo = .map (some m)) (hq : a.eval ko = .string q) (hb : W.heap[m]? = some (.map es c)) (hs : StrSet es.toList ks)
  (h : wpList P ops Q rest (a.put o.dst (.bool (hasKey ks q))) W) : wpList P ops Q (o :: rest) a W := by
 obtain ⟨i, hi, hzz⟩ := Option.map_eq_some_iff.1 hz
 refine ev_run hgd ?_ h
 obtain ⟨r, hr, h1, h2⟩ := run_findKey_str (W := W) hk hs q
 simp only [execOp, ho, hm, hq]
 unfold Instr.lookup
 simp only [run_underlying ht, Sem.run_bind, Result.andThen_ok, run_getObj_map hb, Sem.run_pure, run_checkKey_str hk, hr]
 rcases hk' : hasKey ks q with _ | _
 · rw [h1 hk']; simp [zeroValue, typeInfo, hi, hzz]
 · obtain ⟨j, e⟩ := h2 hk'; rw [e]; simp
theorem ev_mapUpdate_set {mo ko vo : Operand} (hgd : o.guard = none) (hN : o.dst = none) (ho : o.op = .mapUpdate t mo ko vo) (ht : P.underlying t = some (.map K E)) (hk : P.underlying K = some .string)
  {q : ByteArray} (hm : a.eval mo = .map (some m)) (hq : a.eval ko = .string q) (hv : a.eval vo = .bool true) (hb : W.heap[m]? = some (.map es c)) (hs : StrSet es.toList ks) (hno : hasKey ks q = false)
  (h : ∀ (es' : Array MapEntry) c' w1, w1.heap[m]? = some (.map es' c') → StrSet es'.toList (ks ++ [q]) → Keeps (· = m) W w1 → wpList P ops Q rest a w1) : wpList P ops Q (o :: rest) a W := by
 obtain ⟨r, hr, h1, h2⟩ := run_findKey_str (W := W) hk hs q
 have hset : ∀ (o : Obj), (setObj m o).run P W = .ok () { W with heap := W.heap.setIfInBounds m o } := fun o => by simp [setObj, Sem.run, hb]
 refine ev_skip hgd hN (w1 := { W with heap := W.heap.setIfInBounds m (.map (es.push { key := .string q, val := .bool true, born := c }) (c + 1)) }) ?_ (h (es.push { key := .string q, val := .bool true, born := c }) (c + 1) _ ?_ ?_ ((Keeps.refl (· = m) W).setObj (.inl (rfl : m = m)) _))
 · simp only [execOp, ho, hm, hq, hv]
   unfold Instr.mapUpdate
   rw [h1 hno] at hr
   simp [run_underlying ht, run_getObj_map hb, run_checkKey_str hk, hr, hset]
 · show (W.heap.setIfInBounds m _)[m]? = _
   rw [Array.getElem?_setIfInBounds, if_pos rfl, if_pos (blk_lt hb)]
 · rw [Array.toList_push]; exact hs.push q c
end
end Go.Proofs.KL

namespace Go.Proofs.WV
open Go.RowKit Go.Proofs.KL Go.Proofs.WM
set_option linter.unusedVariables false

def StrsX (w : World) (X : Nat → Prop) (v : Value) (ks : List ByteArray) : Prop :=
 ∃ A c, v = .slice A ks.length c ∧ ks.length ≤ c ∧ ∀ i, i < ks.length → ∃ b o, A = some ⟨b, o, none⟩ ∧ X b ∧ w.cell? ⟨b, o + i, none⟩ = some (.string (ks.getD i ByteArray.empty))
def Six (w : World) (b o : Nat) (e0 e1 e2 e3 e4 e5 : Value) : Prop :=
 (w.cell? ⟨b, o, none⟩ = some e0 ∧ w.cell? ⟨b, o + 1, none⟩ = some e1 ∧ w.cell? ⟨b, o + 2, none⟩ = some e2) ∧ w.cell? ⟨b, o + 3, none⟩ = some e3 ∧ w.cell? ⟨b, o + 4, none⟩ = some e4 ∧ w.cell? ⟨b, o + 5, none⟩ = some e5
inductive JX (w : World) (X : Nat → Prop) : Value → J → Prop
 | mk (k : Int) (b : Bool) (n : Int) (t : ByteArray) (ks : List ByteArray) (vs : List J) (kv : Value) (A : Option Addr) (c : Nat) (u : Nat → Nat → Value)
   (hk : StrsX w X kv ks) (hc : vs.length ≤ c)
   (hA : ∀ i, i < vs.length → ∃ b o, A = some ⟨b, o, none⟩ ∧ X b ∧ Six w b (o + i * 6) (u i 0) (u i 1) (u i 2) (u i 3) (u i 4) (u i 5))
   (hv : ∀ i, i < vs.length → JX w X (.agg #[u i 0, u i 1, u i 2, u i 3, u i 4, u i 5]) (vs.getD i default)) :
   JX w X (.agg #[.int .i64 k, .bool b, .int .i64 n, .string t, kv, .slice A vs.length c]) (.mk k b n t ks vs)
def JsX (w : World) (X : Nat → Prop) (v : Value) (vs : List J) : Prop :=
 ∃ A c, ∃ u : Nat → Nat → Value, v = .slice A vs.length c ∧ vs.length ≤ c ∧ (∀ i, i < vs.length → ∃ b o, A = some ⟨b, o, none⟩ ∧ X b ∧ Six w b (o + i * 6) (u i 0) (u i 1) (u i 2) (u i 3) (u i 4) (u i 5)) ∧
  ∀ i, i < vs.length → JX w X (.agg #[u i 0, u i 1, u i 2, u i 3, u i 4, u i 5]) (vs.getD i default)
theorem Six.keep {M : Nat → Prop} {w w' : World} {b o : Nat} {e0 e1 e2 e3 e4 e5 : Value} (h : Six w b o e0 e1 e2 e3 e4 e5) (hk : Keeps M w w') (hn : ¬ M b) : Six w' b o e0 e1 e2 e3 e4 e5 := by
 obtain ⟨⟨h0, h1, h2⟩, h3, h4, h5⟩ := h
 exact ⟨⟨hk.cell h0 hn, hk.cell h1 hn, hk.cell h2 hn⟩, hk.cell h3 hn, hk.cell h4 hn, hk.cell h5 hn⟩
theorem Six.lt {w : World} {b o : Nat} {e0 e1 e2 e3 e4 e5 : Value} (h : Six w b o e0 e1 e2 e3 e4 e5) : b < w.heap.size := World.block_lt_of_cell? _ _ h.1.1
theorem StrsX.keep {M X X' : Nat → Prop} {w w' : World} {v : Value} {ks : List ByteArray} (h : StrsX w X v ks) (hk : Keeps M w w') (hX : ∀ b, b < w.heap.size → X b → ¬ M b) (hX' : ∀ b, b < w.heap.size → X b → X' b) : StrsX w' X' v ks := by
 obtain ⟨A, c, rfl, hc, hx⟩ := h
 refine ⟨A, c, rfl, hc, fun i hi => ?_⟩
 obtain ⟨b, o, rfl, hb, hcell⟩ := hx i hi
 have hlt := World.block_lt_of_cell? _ _ hcell
 exact ⟨b, o, rfl, hX' b hlt hb, hk.cell hcell (hX b hlt hb)⟩
theorem JX.keep {M X X' : Nat → Prop} {w w' : World} {v : Value} {j : J} (h : JX w X v j) (hk : Keeps M w w') (hX : ∀ b, b < w.heap.size → X b → ¬ M b) (hX' : ∀ b, b < w.heap.size → X b → X' b) : JX w' X' v j := by
 induction h with
 | mk k b n t ks vs kv A c u h1 hc hA _ ih =>
   refine .mk k b n t ks vs kv A c u (h1.keep hk hX hX') hc (fun i hi => ?_) ih
   obtain ⟨b, o, e, hb, h6⟩ := hA i hi
   exact ⟨b, o, e, hX' b h6.lt hb, h6.keep hk (hX b h6.lt hb)⟩
theorem JsX.keep {M X X' : Nat → Prop} {w w' : World} {v : Value} {vs : List J} (h : JsX w X v vs) (hk : Keeps M w w') (hX : ∀ b, b < w.heap.size → X b → ¬ M b) (hX' : ∀ b, b < w.heap.size → X b → X' b) : JsX w' X' v vs := by
 obtain ⟨A, c, u, rfl, hc, hA, hv⟩ := h
 refine ⟨A, c, u, rfl, hc, fun i hi => ?_, fun i hi => (hv i hi).keep hk hX hX'⟩
 obtain ⟨b, o, e, hb, h6⟩ := hA i hi
 exact ⟨b, o, e, hX' b h6.lt hb, h6.keep hk (hX b h6.lt hb)⟩
theorem JX.after {X : Nat → Prop} {w w' : World} {v : Value} {j : J} (h : JX w X v j) (hk : Keeps Nob w w') : JX w' X v j := h.keep hk (fun _ _ _ => id) (fun _ _ h => h)
theorem JsX.after {X : Nat → Prop} {w w' : World} {v : Value} {vs : List J} (h : JsX w X v vs) (hk : Keeps Nob w w') : JsX w' X v vs := h.keep hk (fun _ _ _ => id) (fun _ _ h => h)
theorem StrsX.after {X : Nat → Prop} {w w' : World} {v : Value} {ks : List ByteArray} (h : StrsX w X v ks) (hk : Keeps Nob w w') : StrsX w' X v ks := h.keep hk (fun _ _ _ => id) (fun _ _ h => h)
theorem JX.open {w : World} {X : Nat → Prop} {v : Value} {j : J} (h : JX w X v j) : ∃ k b n t ks vs kv vv, j = .mk k b n t ks vs ∧ v = .agg #[.int .i64 k, .bool b, .int .i64 n, .string t, kv, vv] ∧ StrsX w X kv ks ∧ JsX w X vv vs := by
 cases h with
 | mk k b n t ks vs kv A c u h1 hc hA hv => exact ⟨k, b, n, t, ks, vs, kv, _, rfl, rfl, h1, A, c, u, rfl, hc, hA, hv⟩
theorem JX.close {w : World} {X : Nat → Prop} {k : Int} {b : Bool} {n : Int} {t : ByteArray} {ks : List ByteArray} {vs : List J} {kv vv : Value} (h1 : StrsX w X kv ks) (h2 : JsX w X vv vs) : JX w X (.agg #[.int .i64 k, .bool b, .int .i64 n, .string t, kv, vv]) (.mk k b n t ks vs) := by
 obtain ⟨A, c, u, rfl, hc, hA, hv⟩ := h2
 exact .mk k b n t ks vs kv A c u h1 hc hA hv
theorem JX.six {w : World} {X : Nat → Prop} {x0 x1 x2 x3 x4 x5 : Value} {j : J} (h : JX w X (.agg #[x0, x1, x2, x3, x4, x5]) j) :
  ∃ k b n t A nk c B nv d, (x0 = .int .i64 k ∧ x1 = .bool b ∧ x2 = .int .i64 n) ∧ x3 = .string t ∧ x4 = .slice A nk c ∧ x5 = .slice B nv d := by
 obtain ⟨k, b, n, t, ks, vs, kv, vv, rfl, e, ⟨A, c, rfl, _⟩, ⟨B, d, u, rfl, _⟩⟩ := h.open
 injection e with e
 have g : ∀ i : Nat, (#[x0, x1, x2, x3, x4, x5] : Array Value)[i]? = #[.int .i64 k, .bool b, .int .i64 n, .string t, .slice A ks.length c, .slice B vs.length d][i]? := fun i => by rw [e]
 have g0 := g 0; have g1 := g 1; have g2 := g 2; have g3 := g 3; have g4 := g 4; have g5 := g 5
 simp at g0 g1 g2 g3 g4 g5
 exact ⟨k, b, n, t, A, _, c, B, _, d, ⟨g0, g1, g2⟩, g3, g4, g5⟩
theorem strs_nil (w : World) (X : Nat → Prop) : StrsX w X (.slice none 0 0) [] := ⟨none, 0, rfl, Nat.le_refl _, fun i h => absurd h (Nat.not_lt_zero _)⟩
theorem js_nil (w : World) (X : Nat → Prop) : JsX w X (.slice none 0 0) [] := ⟨none, 0, fun _ _ => .int .i64 0, rfl, Nat.le_refl _, fun i h => absurd h (Nat.not_lt_zero _), fun i h => absurd h (Nat.not_lt_zero _)⟩
theorem levels_get : ∀ {vs : List J} {i : Nat}, i < vs.length → levelsJ (vs.getD i default) ≤ levelsL vs
 | v :: vs, 0, _ => by simp [levelsL]; omega
 | v :: vs, i + 1, h => by have := levels_get (vs := vs) (i := i) (by simpa using h); simp only [levelsL, List.getD_cons_succ]; omega
theorem levelsL_take : ∀ (vs : List J) (i : Nat), i < vs.length → levelsL (vs.take (i + 1)) = max (levelsL (vs.take i)) (levelsJ (vs.getD i default))
 | v :: vs, 0, _ => by simp [levelsL]
 | v :: vs, i + 1, h => by
   have := levelsL_take vs i (by simpa using h)
   simp only [List.take_succ_cons, levelsL, List.getD_cons_succ, this]
   omega
theorem size_pos : ∀ j : J, 1 ≤ sizeJ j
 | .mk k b n t ks vs => by unfold sizeJ; omega
theorem size_get : ∀ {vs : List J} {i : Nat}, i < vs.length → sizeJ (vs.getD i default) ≤ sizeL vs
 | v :: vs, 0, _ => by simp [sizeL]
 | v :: vs, i + 1, h => by have := size_get (vs := vs) (i := i) (by simpa using h); simp only [sizeL, List.getD_cons_succ]; omega
theorem size_len : ∀ vs : List J, vs.length ≤ sizeL vs
 | [] => Nat.le_refl _
 | v :: vs => by have := size_len vs; have := size_pos v; simp only [sizeL, List.length_cons]; omega
mutual
theorem levels_size : ∀ j : J, levelsJ j ≤ sizeJ j
 | .mk k b n t ks vs => by have := levels_sizeL vs; unfold levelsJ sizeJ; omega
theorem levels_sizeL : ∀ vs : List J, levelsL vs ≤ sizeL vs
 | [] => Nat.le_refl _
 | v :: vs => by have h1 := levels_size v; have h2 := levels_sizeL vs; unfold levelsL sizeL; omega
end
theorem zero25 : (Tryd.prog.info? 25).map (·.zero) = some (some (.agg #[.int .i64 0, .bool false, .int .i64 0, .string ByteArray.empty, .slice none 0 0, .slice none 0 0])) := by kernel_rfl
theorem info25 : ∃ i, Tryd.prog.info? 25 = some i ∧ i.size = 6 := by
 have h : (Tryd.prog.info? 25).map (·.size) = some 6 := by kernel_rfl
 obtain ⟨i, hi, hs⟩ := Option.map_eq_some_iff.1 h
 exact ⟨i, hi, hs⟩
end Go.Proofs.WV

namespace Go.Proofs.WV
open Go.RowKit Go.Proofs.KL Go.Proofs.WM
set_option maxRecDepth 100000
set_option linter.unusedSimpArgs false
set_option linter.unusedVariables false

theorem levels38 {w : World} {X : Nat → Prop} {v : Value} {j : J} (h : JX w X v j) : ∀ W, Keeps Nob w W → sizeJ j ≤ 1000000000000 → Calls Tryd.prog 38 #[v] W fun e w' => e = .returned (.int .i64 (levelsJ j)) ∧ Keeps Nob W w' := by
 skip
 induction h with
 | mk k b n t ks vs kv A c u h1 hc hA hv ih =>
   intro W hW hb
   obtain ⟨i25, hi25, hs25⟩ := info25
   have HI := Lib.hid (And.intro hi25 hs25)
   have HA := Lib.hid hA
   have IH := Lib.hid ih
   have HV := Lib.hid hv
   have HW := Lib.hid hW
   unfold levelsJ
   have hbl : vs.length ≤ 1000000000000 ∧ sizeL vs ≤ 1000000000000 ∧ levelsL vs ≤ 1000000000000 := by have h1 := size_len vs; have h2 := levels_sizeL vs; unfold sizeJ at hb; omega
   have Hb := Lib.hid hbl
   obtain ⟨hb1, -, hb⟩ := hbl
   obtain ⟨kA, kc, rfl, -, -⟩ := id h1
   obtain ⟨len, hlen⟩ : ∃ x, vs.length = x := ⟨_, rfl⟩
   have Hlen := Lib.hid hlen
   rw [hlen] at hc hb1 ⊢
   obtain ⟨lv, hlv⟩ : ∃ x, levelsL vs = x := ⟨_, rfl⟩
   have Hlv := Lib.hid hlv
   rw [hlv] at hb ⊢
   clear h1 hA hv ih hW hlen hi25 hs25 hlv
   go_enter Tryd.func38, Tryd.ntmps38
   go_wp2_with (first
    | ((with_reducible refine at_dst (N := 1) rfl ?_); go_must (refine ev_box (cs := #[.int .i64 k, .bool b, .int .i64 n, .string t, .slice kA ks.length kc, .slice A len c]) rfl rfl rfl ?_; intro g1 w1 hg1 hl1 hb1 hk1)
       have v5 := (blk_cell hb1 5).trans rfl
       have HK1 := Lib.hid hk1
       clear hb1 hk1
       (try simp only [PU]))
   )
   go_loopw [3, 9] (fun nv iv wr => ∃ j : Nat, iv = .int .i64 j ∧ j ≤ len ∧ nv = .int .i64 (levelsL (vs.take j)) ∧ Hid (Keeps Nob W wr)) (fun _ iv _ => len - (intOf iv).toNat)
   case atStart => exact ⟨0, rfl, Nat.zero_le _, rfl, HK1⟩
   case round =>
    obtain ⟨j, rfl, hj, rfl, HKr⟩ := hrel
    by_cases hlt : j < len
    · obtain ⟨b', o, rfl, -, h6⟩ := HA.out j (by rw [Hlen.out]; exact hlt)
      obtain ⟨⟨e0, e1, e2⟩, e3, e4, e5⟩ := h6.keep (HW.out.trans HKr.out (fun _ _ h => h)) id
      have htk := levelsL_take vs j (by rw [Hlen.out]; exact hlt)
      have hle := levels_get (vs := vs) (i := j) (by rw [Hlen.out]; exact hlt)
      have Hrun := Lib.hid (fun W' hk => IH.out j (by rw [Hlen.out]; exact hlt) W' hk (by have h1 := size_get (vs := vs) (i := j) (by rw [Hlen.out]; exact hlt); have := Hb.out; omega))
      have hsix := (HV.out j (by rw [Hlen.out]; exact hlt)).six
      rw [Hlv.out] at hle
      obtain ⟨lj, hlj⟩ : ∃ x, levelsJ (vs.getD j default) = x := ⟨_, rfl⟩
      obtain ⟨lt, hlt'⟩ : ∃ x, levelsL (vs.take j) = x := ⟨_, rfl⟩
      have hltl : lt ≤ lv := by
       rw [← hlt', ← Hlv.out]
       have : ∀ (l : List J) (m : Nat), levelsL (l.take m) ≤ levelsL l := fun l m => by
        have := levelsL_append (l.take m) (l.drop m)
        rw [List.take_append_drop] at this
        omega
       exact this vs j
      rw [hlj] at hle htk
      rw [hlt'] at htk ⊢
      have Htk := Lib.hid htk
      have Hlj := Lib.hid hlj
      have hmax : (if (lt : Int) < (lj : Int) then (lj : Int) else (lt : Int)) = ((max lt lj : Nat) : Int) := by split <;> omega
      have Hmax := Lib.hid hmax
      have Hmax2 := Lib.hid (show (if lt < lj then (lj : Int) else (lt : Int)) = ((max lt lj : Nat) : Int) by split <;> omega)
      generalize u j 0 = x0 at *
      generalize u j 1 = x1 at *
      generalize u j 2 = x2 at *
      generalize u j 3 = x3 at *
      generalize u j 4 = x4 at *
      generalize u j 5 = x5 at *
      obtain ⟨y0, y1, y2, y3, yA, yn, yc, yB, ym, yd, ⟨rfl, rfl, rfl⟩, rfl, rfl, rfl⟩ := hsix
      clear h6 htk hlj hlt' hmax
      go_wp2_with (first
       | ((with_reducible refine at_dst (N := 5) rfl ?_); go_must (refine ev_alloc rfl rfl zero25 rfl ?_; intro g5 w2 hg5 hl5 hb5 hk5)
          have Hb5 := Lib.hid hb5
          have HK2 := Lib.hid hk5
          clear hb5 hk5
          (try simp only [PU]))
       | ((with_reducible refine at_store (t := 25) (p := 5) rfl ?_); go_must (refine ev_store (cs' := #[.int .i64 y0, .bool y1, .int .i64 y2, .string y3, .slice yA yn yc, .slice yB ym yd]) rfl rfl rfl rfl rfl rfl HI.out.1 HI.out.2 rfl Hb5.out (Nat.le_of_ble_eq_true rfl) rfl ?_; intro w3 hb3 hk3)
          have s0 := (blk_cell hb3 0).trans rfl
          have s1 := (blk_cell hb3 1).trans rfl
          have s2 := (blk_cell hb3 2).trans rfl
          have s3 := (blk_cell hb3 3).trans rfl
          have s4 := (blk_cell hb3 4).trans rfl
          have s5 := (blk_cell hb3 5).trans rfl
          have HK3 := Lib.hid (show Keeps Nob W w3 from HKr.out.trans (HK2.out.own hk3 hg5) (fun _ _ h => h))
          clear hb3 hk3
          (try simp only [PU]))
       | (go_at_call 38; go_must (refine (Hrun.out w3 (HW.out.trans HK3.out (fun _ _ h => h))).mono ?_; rintro e w4 ⟨rfl, hk4⟩); rw [Hlj.out]; have HK4 := Lib.hid (HK3.out.trans hk4 (fun _ _ h => h)); clear hk4; (try simp only [PU]))
      )
      go_roundw
      case rel => exact ⟨j + 1, by go_num, by omega, by rw [Htk.out]; first | rfl | rw [Hmax.out] | rw [Hmax2.out] | (congr 1; omega), HK4⟩
      case measure => simp [intOf]; omega
    · have hj' : j = len := by omega
      subst hj'
      have htl := List.take_length (l := vs)
      rw [Hlen.out] at htl
      rw [htl, Hlv.out]
      clear htl
      go_wp2
      go_ret
      exact ⟨by first | rfl | (rw [show ((1 + lv : Nat) : Int) = (lv : Int) + 1 by omega]; rfl), HKr.out⟩
end Go.Proofs.WV

namespace Go.Proofs.WV
open Go.RowKit Go.Proofs.KL Go.Proofs.WM
set_option maxRecDepth 100000
set_option linter.unusedSimpArgs false
set_option linter.unusedVariables false

end Go.Proofs.WV

namespace Go.Proofs.KL
open Go.RowKit Go.Proofs.WM
set_option maxRecDepth 100000
set_option linter.unusedVariables false

theorem run_storeCells_off (P : Program) (g o : Nat) (t : TypeId) (fz : Nat × Nat) : ∀ (vs : List Value) (i : Nat) (cur : Array Value) (w : World), w.heap[g]? = some (.cells cur t fz) → (fz.2 ≤ o + i ∨ o + i + vs.length ≤ fz.1) → o + i + vs.length ≤ cur.size → (∀ v ∈ vs, v.oneCell' = true) →
  (storeCells ⟨g, o, none⟩ vs i).run P w = .ok () (w.setRow g (cur.toList.take (o + i) ++ vs ++ cur.toList.drop (o + i + vs.length)).toArray)
 | [], i, cur, w, hg, _, _, _ => by
   simp only [storeCells, List.append_nil, List.length_nil, Nat.add_zero, List.take_append_drop, Array.toArray_toList]
   rw [setRow_self w g cur t fz hg]
   rfl
 | v :: rest, i, cur, w, hg, hfz, hl, h1 => by
   have hi : o + i < cur.size := by simp at hl; omega
   have hadd : (⟨g, o, none⟩ : Addr).add i = ⟨g, o + i, none⟩ := by unfold Addr.add; split <;> simp_all
   have hcell : w.cell? ⟨g, o + i, none⟩ = some cur[o + i] := by simp [World.cell?, hg, hi]
   have hfro : w.frozen? ⟨g, o + i, none⟩ = false := by
    obtain ⟨lo, hi'⟩ := fz
    simp only [World.frozen?, hg, Bool.and_eq_false_iff, decide_eq_false_iff_not]
    simp only [List.length_cons] at hfz
    omega
   have hst : (store ((⟨g, o, none⟩ : Addr).add i) v).run P w = .ok () (w.setRow g (cur.setIfInBounds (o + i) v)) := by
    rw [hadd, run_store P w _ v _ (h1 v (by simp)), hcell]
    simp [hfro, setCell_eq_setRow w g (o + i) cur t fz v hg]
   have ih := run_storeCells_off P g o t fz rest (i + 1) (cur.setIfInBounds (o + i) v) (w.setRow g (cur.setIfInBounds (o + i) v)) (setRow_heap w g cur _ t _ hg) (by simp only [List.length_cons] at hfz; omega) (by simp at hl ⊢; omega) (fun x hx => h1 x (by simp [hx]))
   simp only [storeCells, Sem.run_bind, hst, Result.andThen_ok, ih, setRow_setRow]
   congr 3
   have e := list_seg_step cur.toList (o + i) v rest (by simp at hl ⊢; omega)
   simpa [Array.toList_setIfInBounds, Nat.add_assoc] using e
theorem addr_add0 (g j : Nat) : (⟨g, 0, none⟩ : Addr).add j = ⟨g, j, none⟩ := by unfold Addr.add; split <;> simp_all
def byteV (c : UInt8) : Value := .int .u8 c.toNat
def OwnB (w : World) (base : Nat) (v : Value) (bs : Bs) : Prop :=
 (v = .slice none 0 0 ∧ bs = []) ∨ ∃ g cap cur fz, v = .slice (some ⟨g, 0, none⟩) bs.length cap ∧ base ≤ g ∧ w.heap[g]? = some (.cells cur 5 fz) ∧ (fz.2 ≤ bs.length ∨ cap ≤ fz.1) ∧ bs.length ≤ cap ∧ cap ≤ maxLen ∧ cur.size = cap ∧ cur.toList.take bs.length = bs.map byteV
theorem OwnB.nil (w : World) (base : Nat) : OwnB w base (.slice none 0 0) [] := .inl ⟨rfl, rfl⟩
theorem OwnB.lt {w : World} {base : Nat} {v : Value} {bs : Bs} (h : OwnB w base v bs) : ∀ k, v.ownBlock = some k → base ≤ k ∧ k < w.heap.size := fun k hk => by
 rcases h with ⟨rfl, _⟩ | ⟨g, cap, cur, fz, rfl, hb, hg, _⟩
 · cases hk
 · simp only [Value.ownBlock, Option.some.injEq] at hk; subst hk; exact ⟨hb, blk_lt hg⟩
theorem OwnB.keep {M : Nat → Prop} {w w' : World} {base : Nat} {v : Value} {bs : Bs} (h : OwnB w base v bs) (hk : Keeps M w w') (hn : ∀ k, v.ownBlock = some k → ¬ M k) : OwnB w' base v bs := by
 rcases h with h | ⟨g, cap, cur, fz, rfl, hb, hg, h⟩
 · exact .inl h
 · exact .inr ⟨g, cap, cur, fz, rfl, hb, hk.blk hg (hn g rfl), h⟩
theorem OwnB.slice {w : World} {base : Nat} {v : Value} {bs : Bs} (h : OwnB w base v bs) : ∃ A c, v = .slice A bs.length c := by
 rcases h with ⟨rfl, rfl⟩ | ⟨g, cap, cur, fz, rfl, _⟩
 · exact ⟨none, 0, rfl⟩
 · exact ⟨_, cap, rfl⟩
def BytesX (w : World) (X : Nat → Prop) (v : Value) (bs : Bs) : Prop :=
 ∃ A c, v = .slice A bs.length c ∧ bs.length ≤ c ∧ ∀ i, i < bs.length → ∃ b o, A = some ⟨b, o, none⟩ ∧ X b ∧ w.cell? ⟨b, o + i, none⟩ = some (byteV (bs.getD i 0))
theorem BytesX.keep {M X X' : Nat → Prop} {w w' : World} {v : Value} {bs : Bs} (h : BytesX w X v bs) (hk : Keeps M w w') (hX : ∀ b, b < w.heap.size → X b → ¬ M b) (hX' : ∀ b, b < w.heap.size → X b → X' b) : BytesX w' X' v bs := by
 obtain ⟨A, c, rfl, hc, hx⟩ := h
 refine ⟨A, c, rfl, hc, fun i hi => ?_⟩
 obtain ⟨b, o, rfl, hb, hcell⟩ := hx i hi
 have hlt := World.block_lt_of_cell? _ _ hcell
 exact ⟨b, o, rfl, hX' b hlt hb, hk.cell hcell (hX b hlt hb)⟩
theorem BytesX.nil (w : World) (X : Nat → Prop) : BytesX w X (.slice none 0 0) [] := ⟨none, 0, rfl, Nat.le_refl _, fun i h => absurd h (Nat.not_lt_zero _)⟩
theorem OwnB.bytes {w : World} {base : Nat} {v : Value} {bs : Bs} (h : OwnB w base v bs) : BytesX w (fun k => v.ownBlock = some k) v bs := by
 rcases h with ⟨rfl, rfl⟩ | ⟨g, cap, cur, fz, rfl, hb, hg, hfz, hc, hm, hs, ht⟩
 · exact BytesX.nil _ _
 · refine ⟨_, cap, rfl, hc, fun i hi => ⟨g, 0, rfl, rfl, ?_⟩⟩
   have h2 : cur.toList[i]? = some (byteV (bs.getD i 0)) := by
    have h3 : (cur.toList.take bs.length)[i]? = (bs.map byteV)[i]? := by rw [ht]
    rw [List.getElem?_take, if_pos hi] at h3
    rw [h3, List.getElem?_map, List.getD_eq_getElem?_getD, List.getElem?_eq_getElem hi]
    rfl
   rw [Nat.zero_add]
   simp only [World.cell?, hg]
   simpa using h2
theorem BytesX.news {w : World} {X : Nat → Prop} {A : Option Addr} {n c : Nat} {bs : Bs} (h : BytesX w X (.slice A n c) bs) : 0 < n → ∃ ad, A = some ad ∧ ∀ j u, (bs.map byteV)[j]? = some u → w.cell? (ad.add j) = some u := fun hn => by
 obtain ⟨A', c', e, _, hx⟩ := h
 injection e with e1 e2 e3
 subst e1; subst e2; subst e3
 obtain ⟨b, o, rfl, _, _⟩ := hx 0 hn
 refine ⟨_, rfl, fun j u hj => ?_⟩
 have hlt : j < bs.length := by
  rcases Nat.lt_or_ge j bs.length with h | h
  · exact h
  · rw [List.getElem?_eq_none (by simpa using h)] at hj; cases hj
 obtain ⟨b', o', e, _, hcell⟩ := hx j hlt
 injection e with e
 injection e with e1 e2
 subst e1; subst e2
 rw [List.getElem?_map, List.getElem?_eq_getElem hlt] at hj
 simp only [Option.map_some, Option.some.injEq] at hj
 rw [List.getD_eq_getElem?_getD, List.getElem?_eq_getElem hlt] at hcell
 have hadd : (⟨b, o, none⟩ : Addr).add j = ⟨b, o + j, none⟩ := by unfold Addr.add; split <;> simp_all
 rw [hadd, hcell, ← hj]
 rfl
theorem byteV_one : ∀ (bs : Bs), ∀ u ∈ bs.map byteV, u.oneCell' = true := fun bs u hu => by
 obtain ⟨c, _, rfl⟩ := List.mem_map.1 hu
 rfl
theorem strCells_byteV (s : ByteArray) : Lib.strCells s = (bl s).map byteV := rfl
section
variable {P : Program} {ops : Array Oper} {rest : List Oper} {o : Oper} {a : Act} {Q : Exit → Act → World → Prop}
structure ByteT (P : Program) (t : TypeId) : Prop where
 under : P.underlying t = some (.slice 5)
 info : (P.info? 5).map (fun i => (i.zero, i.size, i.bytes)) = some (some (.int .u8 0), 1, 1)
structure Appended (w : World) (v : Value) (w' : World) (v' : Value) : Prop where
 keep : Keeps (fun k => some k = v.ownBlock) w w'
 row : v'.ownBlock = v.ownBlock ∨ ∃ b, v'.ownBlock = some b ∧ w.heap.size ≤ b
theorem own_room {w : World} {base : Nat} {g cap : Nat} {cur : Array Value} {fz : Nat × Nat} {bs news : Bs} (hb : base ≤ g) (hg : w.heap[g]? = some (.cells cur 5 fz)) (hfz : fz.2 ≤ bs.length ∨ cap ≤ fz.1) (hc : cap ≤ maxLen) (hs : cur.size = cap) (ht : cur.toList.take bs.length = bs.map byteV) (hroom : bs.length + news.length ≤ cap) :
  OwnB (w.setRow g (cur.toList.take bs.length ++ news.map byteV ++ cur.toList.drop (bs.length + news.length)).toArray) base (.slice (some ⟨g, 0, none⟩) (bs.length + news.length) cap) (bs ++ news) := by
 refine .inr ⟨g, cap, _, fz, by rw [List.length_append], hb, setRow_heap w g cur _ 5 _ hg, ?_, by rw [List.length_append]; exact hroom, hc, ?_, ?_⟩
 · rw [List.length_append]; omega
 · simp only [List.size_toArray, List.length_append, List.length_take, List.length_drop, Array.length_toList, List.length_map]
   omega
 · rw [ht, List.map_append]
   rw [show (bs ++ news).length = (bs.map byteV ++ news.map byteV).length by simp]
   exact List.take_left
theorem own_grown {w : World} {base : Nat} {bs news : Bs} (old : Nat) (hb : base ≤ w.heap.size) (h63 : bs.length + news.length ≤ maxLen) :
  OwnB (w.drew.alloc (.cells ((bs.map byteV).toArray ++ (news.map byteV).toArray ++ Builtin.zeroCells (Value.int .u8 0).cells (grownCap w (bs.length + news.length) old 5 - (bs.length + news.length))) 5)) base
   (.slice (some ⟨w.heap.size, 0, none⟩) (bs.length + news.length) (grownCap w (bs.length + news.length) old 5)) (bs ++ news) := by
 have hge := grownCap_ge w (bs.length + news.length) old 5
 refine .inr ⟨w.heap.size, _, _, (0, 0), by rw [List.length_append], hb, heap_alloc_new w.drew _, .inl (Nat.zero_le _), by rw [List.length_append]; exact hge, grownCap_le_maxLen w _ old 5 h63, ?_, ?_⟩
 · have hz1 : (Value.int IntKind.u8 0).cells.size = 1 := rfl
   simp only [Array.size_append, List.size_toArray, size_zeroCells, hz1, List.length_map]
   omega
 · simp only [Array.toList_append, List.append_assoc]
   rw [← List.append_assoc, ← List.map_append, show (bs ++ news).length = ((bs ++ news).map byteV).length by simp]
   exact List.take_left
theorem grown_keeps {M : Nat → Prop} {w : World} (o : Obj) : Keeps M w (w.drew.alloc o) := (Keeps.refl M w).drew.alloc o
theorem room_keeps {w : World} {g : Nat} {cs : Array Value} : Keeps (fun k => some k = some g) w (w.setRow g cs) :=
 ⟨rfl, rfl, rfl, by simp [World.setRow], fun k _ hn => by simp only [World.setRow, Array.getElem?_modify]; rw [if_neg (fun e => hn (by rw [e]))]⟩
set_option maxHeartbeats 1000000 in
theorem ev_app_str {W : World} (hgd : o.guard = none) {s x : Operand} {t u : TypeId} (ho : o.op = .call { callee := .builtin .append, args := #[s, x], argTypes := #[t, u] }) (ht : ByteT P t) (hu : P.underlying u = some .string)
  {base : Nat} {v : Value} {bs : Bs} (hs : a.eval s = v) (hown : OwnB W base v bs) {st : ByteArray} (hx : a.eval x = .string st) (hb : bs.length + (bl st).length ≤ 140737488355328) (hbase : base ≤ W.heap.size)
  (h : ∀ v' w1, OwnB w1 base v' (bs ++ bl st) → Appended W v w1 v' → wpList P ops Q rest (a.put o.dst v') w1) : wpList P ops Q (o :: rest) a W := by
 obtain ⟨i0, hi, hzz⟩ := Option.map_eq_some_iff.1 ht.info
 simp only [Prod.mk.injEq] at hzz
 obtain ⟨hz0, hz1, hz2⟩ := hzz
 have hsz : st.size = (bl st).length := by simp [bl]
 have h63 : bs.length + (bl st).length ≤ maxLen := by unfold maxLen; omega
 suffices hsuf : ∃ v' w1, (Builtin.append_ #[t, u] o.type #[v, .string st]).run P W = .ok v' w1 ∧ OwnB w1 base v' (bs ++ bl st) ∧ Appended W v w1 v' by
  obtain ⟨v', w1, hr, h1, h2⟩ := hsuf
  refine ev_run hgd (v := v') (w1 := w1) ?_ (h v' w1 h1 h2)
  simp [execOp, ho, resolve, invoke, builtin, hs, hx, hr]
 rcases hown with ⟨rfl, rfl⟩ | ⟨g, cap, cur, fz, rfl, hbg, hg, hfz, hnc, hcm, hcs, htake⟩
 · by_cases hm : st.size = 0
   · have he : bl st = [] := List.eq_nil_of_length_eq_zero (by omega)
     refine ⟨.slice none 0 0, W, ?_, by rw [he]; exact .inl ⟨rfl, rfl⟩, Keeps.refl _ _, .inl rfl⟩
     have hf := Lib.run_firstCells_string (P := P) W 1 st
     have hn : Lib.strCells st = [] := by rw [strCells_byteV, he]; rfl
     rw [hm] at hf
     simp [Builtin.append_, run_underlying ht.under, run_underlying hu, sizeOf, typeInfo, hi, hz1, Builtin.lenOf, hm, hf]
   · have hr := run_append_nil_string (P := P) W t u o.type 5 i0 (.int .u8 0) ht.under hu hi hz0 st (by omega) (by omega) (by rw [hz2]; omega)
     have e1 : (st.data.map fun b => Value.int .u8 b.toNat) = ((bl st).map byteV).toArray := by
      apply Array.ext'
      simp [bl, byteV]
     have hgr := own_grown (w := W) (base := base) (bs := []) (news := bl st) 0 hbase (by simpa using h63)
     simp only [List.length_nil, Nat.zero_add, List.nil_append, List.map_nil, Array.empty_append] at hgr
     rw [e1, hsz] at hr
     refine ⟨_, _, hr, ?_, grown_keeps _, .inr ⟨W.heap.size, rfl, Nat.le_refl _⟩⟩
     rw [List.nil_append]
     exact hgr
 · by_cases hroom : bs.length + (bl st).length ≤ cap
   · have hf := Lib.run_firstCells_string (P := P) W 1 st
     have hst := run_storeCells_off P g bs.length 5 fz ((bl st).map byteV) 0 cur W hg (by simp only [List.length_map]; omega) (by simp only [List.length_map]; omega) (byteV_one _)
     simp only [Nat.add_zero, List.length_map] at hst
     refine ⟨.slice (some ⟨g, 0, none⟩) (bs.length + (bl st).length) cap, _, ?_, own_room hbg hg hfz hcm hcs htake hroom, room_keeps, .inl rfl⟩
     have hroom' : bs.length + st.size ≤ cap := by omega
     rw [strCells_byteV] at hf
     rw [← hsz] at hst ⊢
     generalize bl st = news at *
     simp [Builtin.append_, run_underlying ht.under, run_underlying hu, sizeOf, typeInfo, hi, hz1, Builtin.lenOf, hroom', hf, Addr.add_lit, hst]
   · have holds : ∀ j x, (bs.map byteV)[j]? = some x → W.cell? ((⟨g, 0, none⟩ : Addr).add j) = some x := fun j x hj => by
      rw [addr_add0]
      have h3 : (cur.toList.take bs.length)[j]? = some x := by rw [htake]; exact hj
      rw [List.getElem?_take] at h3
      split at h3
      · simp only [World.cell?, hg]; simpa using h3
      · cases h3
     have hr := Lib.run_append_grow_string (P := P) W t u o.type 5 i0 (.int .u8 0) ht.under hu hi hz0 ⟨g, 0, none⟩ bs.length cap (bs.map byteV) (by rw [hz1]; simp) holds st (by omega) (by omega) (by rw [hz2]; exact growslice_fits (by omega) (by omega))
     rw [strCells_byteV, hsz] at hr
     exact ⟨_, _, hr, own_grown cap hbase h63, grown_keeps _, .inr ⟨W.heap.size, rfl, Nat.le_refl _⟩⟩
theorem ev_app_sl {W : World} (hgd : o.guard = none) {s x : Operand} {t : TypeId} (ho : o.op = .call { callee := .builtin .append, args := #[s, x], argTypes := #[t, t] }) (ht : ByteT P t)
  {base : Nat} {v : Value} {bs : Bs} (hs : a.eval s = v) (hown : OwnB W base v bs) {A : Option Addr} {m c : Nat} {news : Bs} (hx : a.eval x = .slice A m c) (hl : news.length = m) (hnews : 0 < m → ∃ ad, A = some ad ∧ ∀ j u, (news.map byteV)[j]? = some u → W.cell? (ad.add j) = some u)
  (hb : bs.length + m ≤ 140737488355328) (hbase : base ≤ W.heap.size)
  (h : ∀ v' w1, OwnB w1 base v' (bs ++ news) → Appended W v w1 v' → wpList P ops Q rest (a.put o.dst v') w1) : wpList P ops Q (o :: rest) a W := by
 obtain ⟨i0, hi, hzz⟩ := Option.map_eq_some_iff.1 ht.info
 simp only [Prod.mk.injEq] at hzz
 obtain ⟨hz0, hz1, hz2⟩ := hzz
 subst hl
 have h63 : bs.length + news.length ≤ maxLen := by unfold maxLen; omega
 suffices hsuf : ∃ v' w1, (Builtin.append_ #[t, t] o.type #[v, .slice A news.length c]).run P W = .ok v' w1 ∧ OwnB w1 base v' (bs ++ news) ∧ Appended W v w1 v' by
  obtain ⟨v', w1, hr, h1, h2⟩ := hsuf
  refine ev_run hgd (v := v') (w1 := w1) ?_ (h v' w1 h1 h2)
  simp [execOp, ho, resolve, invoke, builtin, hs, hx, hr]
 rcases Nat.eq_zero_or_pos news.length with hm | hm
 · have he : news = [] := List.eq_nil_of_length_eq_zero hm
   subst he
   rw [List.append_nil]
   refine ⟨v, W, ?_, hown, Keeps.refl _ _, .inl rfl⟩
   rcases hown with ⟨rfl, rfl⟩ | ⟨g, cap, cur, fz, rfl, hbg, hg, hfz, hnc, hcm, hcs, htake⟩
   · cases A <;> simp [Builtin.append_, run_underlying ht.under, sizeOf, typeInfo, hi, Builtin.lenOf, Builtin.firstCells, loadCells, loadCellsFrom]
   · cases A <;> simp [Builtin.append_, run_underlying ht.under, sizeOf, typeInfo, hi, Builtin.lenOf, Builtin.firstCells, loadCells, loadCellsFrom, hnc, storeCells]
 obtain ⟨ad, rfl, hnw⟩ := hnews hm
 rcases hown with ⟨rfl, rfl⟩ | ⟨g, cap, cur, fz, rfl, hbg, hg, hfz, hnc, hcm, hcs, htake⟩
 · have hr := run_append_nil (P := P) W t o.type 5 i0 (.int .u8 0) ht.under hi hz0 ad news.length c (news.map byteV) (by rw [hz1]; simp) hnw hm (by omega) (by rw [hz2]; omega)
   have hgr := own_grown (w := W) (base := base) (bs := []) (news := news) 0 hbase (by simpa using h63)
   simp only [List.length_nil, Nat.zero_add, List.nil_append, List.map_nil, Array.empty_append] at hgr
   refine ⟨_, _, hr, ?_, grown_keeps _, .inr ⟨W.heap.size, rfl, Nat.le_refl _⟩⟩
   rw [List.nil_append]
   exact hgr
 · by_cases hroom : bs.length + news.length ≤ cap
   · have hf := run_firstCells_some (P := P) W 1 news.length ad news.length c (news.map byteV) (by simp) hnw
     have hst := run_storeCells_off P g bs.length 5 fz (news.map byteV) 0 cur W hg (by simp only [List.length_map]; omega) (by simp only [List.length_map]; omega) (byteV_one _)
     simp only [Nat.add_zero, List.length_map] at hst
     refine ⟨.slice (some ⟨g, 0, none⟩) (bs.length + news.length) cap, _, ?_, own_room hbg hg hfz hcm hcs htake hroom, room_keeps, .inl rfl⟩
     simp [Builtin.append_, run_underlying ht.under, sizeOf, typeInfo, hi, hz1, Builtin.lenOf, hroom, hf, Addr.add_lit, hst]
   · have holds : ∀ j x, (bs.map byteV)[j]? = some x → W.cell? ((⟨g, 0, none⟩ : Addr).add j) = some x := fun j x hj => by
      rw [addr_add0]
      have h3 : (cur.toList.take bs.length)[j]? = some x := by rw [htake]; exact hj
      rw [List.getElem?_take] at h3
      split at h3
      · simp only [World.cell?, hg]; simpa using h3
      · cases h3
     have hr := run_append_grow (P := P) W t o.type 5 i0 (.int .u8 0) ht.under hi hz0 ⟨g, 0, none⟩ bs.length cap (bs.map byteV) (by rw [hz1]; simp) holds ad news.length c (news.map byteV) (by rw [hz1]; simp) hnw (by omega) (by omega) (by rw [hz2]; exact growslice_fits (by omega) (by omega))
     exact ⟨_, _, hr, own_grown cap hbase h63, grown_keeps _, .inr ⟨W.heap.size, rfl, Nat.le_refl _⟩⟩
end
end Go.Proofs.KL

namespace Go.Proofs
open Go.Shelf
open Go.RowKit in
open Go.RowKit in
open Go.RowKit in
open Go.RowKit in
def Tryd.lays137_ren : Go.Shelf.Ren := ⟨fun | 137 => 72 | 217 => 100 | 266 => 112 | n => n, fun | 9 => 9 | 5 => 5 | 3 => 3 | n => n, fun | n => n⟩
theorem Tryd.lays137 : Go.Proofs.Lays.n137 Tryd.prog Tryd.lays137_ren := {
 mixed := by kernel_rfl
 f137 := Tryd.func72.trans (congrArg some (by kernel_rfl))
 f217 := Tryd.func100.trans (congrArg some (by kernel_rfl))
 f266 := Tryd.func112.trans (congrArg some (by kernel_rfl))
 t3 := Tryd.underlying3
 a3 := Tryd.isAgg3
 z3 := Tryd.sizeOf3
 v3 := Tryd.zeroValue3
 t5 := Tryd.underlying5
 a5 := Tryd.isAgg5
 z5 := Tryd.sizeOf5
 v5 := Tryd.zeroValue5
 t9 := Tryd.underlying9
 a9 := Tryd.isAgg9
 z9 := Tryd.sizeOf9
 v9 := Tryd.zeroValue9 }
open Go.RowKit in
theorem Tryd.strings_IndexByte (s : ByteArray) (c : Int) (w : World) :
  Calls Tryd.prog 72 #[.string s, .int .u8 c] w fun e w' => e = .returned (.int .i64 (Lib.indexByte s.data.toList c.toNat.toUInt8)) ∧ w' = w := Any.strings_IndexByte Tryd.lays137 s c w
open Go.RowKit in
def Tryd.lays121_ren : Go.Shelf.Ren := ⟨fun | 121 => 65 | 214 => 95 | n => n, fun | 4 => 4 | 9 => 9 | n => n, fun | n => n⟩
theorem Tryd.lays121 : Go.Proofs.Lays.n121 Tryd.prog Tryd.lays121_ren := {
 mixed := by kernel_rfl
 f121 := Tryd.func65.trans (congrArg some (by kernel_rfl))
 f214 := Tryd.func95.trans (congrArg some (by kernel_rfl))
 t4 := Tryd.underlying4
 a4 := Tryd.isAgg4
 z4 := Tryd.sizeOf4
 v4 := Tryd.zeroValue4
 t9 := Tryd.underlying9
 a9 := Tryd.isAgg9
 z9 := Tryd.sizeOf9
 v9 := Tryd.zeroValue9 }
open Go.RowKit in
theorem Tryd.strconv_FormatBool (b : Bool) (w : World) :
  Calls Tryd.prog 65 #[.bool b] w fun e w' => e = .returned (.string ⟨(Lib.formatBool b).toArray⟩) ∧ w' = w := Any.strconv_FormatBool Tryd.lays121 b w
open Go.RowKit in
open Go.RowKit in
open Go.RowKit in
open Go.RowKit in
open Go.RowKit in
open Go.RowKit in
open Go.RowKit in
open Go.Lib in
open Go.Lib in
open Go.Lib in
open Go.Lib in
open Go.RowKit Go.Sort Go.Lib in
open Go.RowKit Go.Sort Go.Lib in
open Go.RowKit Go.Sort Go.Lib in
open Go.RowKit Go.Sort Go.Lib in
open Go.RowKit Go.Sort Go.Lib in
open Go.RowKit Go.Sort Go.Lib in
open Go.RowKit Go.Sort Go.Lib in
def Tryd.laysM173_ren : Go.Shelf.Ren := ⟨fun | 173 => 42 | 246 => 71 | 283 => 96 | 284 => 97 | 285 => 98 | 286 => 99 | 129 => 108 | 317 => 107 | 318 => 109 | 319 => 110 | 320 => 111 | 337 => 114 | 338 => 115 | n => n, fun | 2 => 2 | 3 => 3 | 9 => 9 | 4 => 4 | 171 => 119 | 0 => 0 | 53 => 120 | 37 => 38 | 5 => 5 | 173 => 123 | 212 => 130 | 51 => 131 | 20 => 20 | 213 => 132 | 46 => 118 | 232 => 137 | 233 => 138 | n => n, fun | 17 => 0 | 18 => 2 | 19 => 3 | n => n⟩
theorem Tryd.laysM173 : Go.Proofs.LaysM.n173 Tryd.prog Tryd.laysM173_ren := {
 mixed := by kernel_rfl
 f129 := Tryd.func108.trans (congrArg some (by kernel_rfl))
 f173 := Tryd.func42.trans (congrArg some (by kernel_rfl))
 f246 := Tryd.func71.trans (congrArg some (by kernel_rfl))
 f283 := Tryd.func96.trans (congrArg some (by kernel_rfl))
 f284 := Tryd.func97.trans (congrArg some (by kernel_rfl))
 f285 := Tryd.func98.trans (congrArg some (by kernel_rfl))
 f286 := Tryd.func99.trans (congrArg some (by kernel_rfl))
 f317 := Tryd.func107.trans (congrArg some (by kernel_rfl))
 f318 := Tryd.func109.trans (congrArg some (by kernel_rfl))
 f319 := Tryd.func110.trans (congrArg some (by kernel_rfl))
 f320 := Tryd.func111.trans (congrArg some (by kernel_rfl))
 f337 := Tryd.func114.trans (congrArg some (by kernel_rfl))
 f338 := Tryd.func115.trans (congrArg some (by kernel_rfl))
 t0 := Tryd.underlying0
 a0 := Tryd.isAgg0
 z0 := Tryd.sizeOf0
 v0 := Tryd.zeroValue0
 t2 := Tryd.underlying2
 a2 := Tryd.isAgg2
 z2 := Tryd.sizeOf2
 v2 := Tryd.zeroValue2
 t3 := Tryd.underlying3
 a3 := Tryd.isAgg3
 z3 := Tryd.sizeOf3
 v3 := Tryd.zeroValue3
 t4 := Tryd.underlying4
 a4 := Tryd.isAgg4
 z4 := Tryd.sizeOf4
 v4 := Tryd.zeroValue4
 t5 := Tryd.underlying5
 a5 := Tryd.isAgg5
 z5 := Tryd.sizeOf5
 v5 := Tryd.zeroValue5
 t9 := Tryd.underlying9
 a9 := Tryd.isAgg9
 z9 := Tryd.sizeOf9
 v9 := Tryd.zeroValue9
 t20 := Tryd.underlying20
 a20 := Tryd.isAgg20
 z20 := Tryd.sizeOf20
 v20 := Tryd.zeroValue20
 t37 := Tryd.underlying38
 a37 := Tryd.isAgg38
 z37 := Tryd.sizeOf38
 v37 := Tryd.zeroValue38
 t46 := Tryd.underlying118
 a46 := Tryd.isAgg118
 z46 := Tryd.sizeOf118
 v46 := Tryd.zeroValue118
 t51 := Tryd.underlying131
 a51 := Tryd.isAgg131
 z51 := Tryd.sizeOf131
 v51 := Tryd.zeroValue131
 t53 := Tryd.underlying120
 a53 := Tryd.isAgg120
 z53 := Tryd.sizeOf120
 v53 := Tryd.zeroValue120
 t171 := Tryd.underlying119
 a171 := Tryd.isAgg119
 z171 := Tryd.sizeOf119
 v171 := Tryd.zeroValue119
 t173 := Tryd.underlying123
 a173 := Tryd.isAgg123
 z173 := Tryd.sizeOf123
 v173 := Tryd.zeroValue123
 t212 := Tryd.underlying130
 a212 := Tryd.isAgg130
 z212 := Tryd.sizeOf130
 v212 := Tryd.zeroValue130
 t213 := Tryd.underlying132
 a213 := Tryd.isAgg132
 z213 := Tryd.sizeOf132
 t232 := Tryd.underlying137
 a232 := Tryd.isAgg137
 z232 := Tryd.sizeOf137
 v232 := Tryd.zeroValue137
 t233 := Tryd.underlying138
 a233 := Tryd.isAgg138
 z233 := Tryd.sizeOf138
 v233 := Tryd.zeroValue138
 g17 := by kernel_rfl
 g18 := by kernel_rfl
 g19 := by kernel_rfl
 i0 := by kernel_rfl
 i2 := by kernel_rfl
 i3 := by kernel_rfl
 i4 := by kernel_rfl
 i5 := by kernel_rfl
 i9 := by kernel_rfl
 i20 := by kernel_rfl
 i37 := by kernel_rfl
 i46 := by kernel_rfl
 i51 := by kernel_rfl
 i53 := by kernel_rfl
 i171 := by kernel_rfl
 i173 := by kernel_rfl
 i212 := by kernel_rfl
 i232 := by kernel_rfl
 i233 := by kernel_rfl
 m17 := by kernel_rfl
 m18 := by kernel_rfl
 m19 := by kernel_rfl }
open Go.RowKit Go.Sort Go.Lib in
theorem Tryd.strconv_FormatInt_10 (n : Int) (h0 : -9223372036854775808 ≤ n) (h1 : n ≤ 9223372036854775807) (w : World) (htab : Lib.TabIs Tryd.prog w "internal/strconv.uint64pow10" .u64 Lib.pow10Tab) :
  Calls Tryd.prog 42 #[.int .i64 n, .int .i64 10] w fun e w' => e = .returned (.string ⟨(Lib.itoa n).toArray⟩) ∧ ∃ k os, w' = grow (w.drewN k) os := Any.strconv_FormatInt_10 Tryd.laysM173 n h0 h1 w htab
open Go.RowKit Go.Sort Go.Lib in
open Go.RowKit Go.Lib in
open Go.Lib in
open Go.Lib in
def Tryd.lays193_ren : Go.Shelf.Ren := ⟨fun | 193 => 54 | n => n, fun | 31 => 22 | 9 => 9 | 4 => 4 | 3 => 3 | 0 => 0 | n => n, fun | n => n⟩
theorem Tryd.lays193 : Go.Proofs.Lays.n193 Tryd.prog Tryd.lays193_ren := {
 mixed := by kernel_rfl
 f193 := Tryd.func54.trans (congrArg some (by kernel_rfl))
 t0 := Tryd.underlying0
 a0 := Tryd.isAgg0
 z0 := Tryd.sizeOf0
 v0 := Tryd.zeroValue0
 t3 := Tryd.underlying3
 a3 := Tryd.isAgg3
 z3 := Tryd.sizeOf3
 v3 := Tryd.zeroValue3
 t4 := Tryd.underlying4
 a4 := Tryd.isAgg4
 z4 := Tryd.sizeOf4
 v4 := Tryd.zeroValue4
 t9 := Tryd.underlying9
 a9 := Tryd.isAgg9
 z9 := Tryd.sizeOf9
 v9 := Tryd.zeroValue9
 t31 := Tryd.underlying22
 a31 := Tryd.isAgg22
 z31 := Tryd.sizeOf22
 v31 := Tryd.zeroValue22 }
open Go.RowKit Go.Lib in
theorem Tryd.slices_Equal_string (b1 o1 n c b2 o2 m d : Nat) (xs ys : List ByteArray) (w : World) (hx : n ≤ xs.length) (hy : m ≤ ys.length) (hbig : n ≤ 9223372036854775807) (hbig2 : m ≤ 9223372036854775807) (hc1 : ∀ j, j < xs.length → w.cell? ⟨b1, o1 + j, none⟩ = some (.string (xs.getD j ByteArray.empty))) (hc2 : ∀ j, j < ys.length → w.cell? ⟨b2, o2 + j, none⟩ = some (.string (ys.getD j ByteArray.empty))) :
  Calls Tryd.prog 54 #[.slice (some ⟨b1, o1, none⟩) n c, .slice (some ⟨b2, o2, none⟩) m d] w fun e w' => e = .returned (.bool (decide (xs.take n = ys.take m))) ∧ ∃ q, w' = w.drewN q := Any.slices_Equal_string Tryd.lays193 b1 o1 n c b2 o2 m d xs ys w hx hy hbig hbig2 hc1 hc2
open Go.RowKit Go.Lib in
theorem Tryd.slices_Equal_string_empty (a1 a2 : Option Addr) (c m d : Nat) (w : World) (hbig2 : m ≤ 9223372036854775807) :
  Calls Tryd.prog 54 #[.slice a1 0 c, .slice a2 m d] w fun e w' => e = .returned (.bool (decide (m = 0))) ∧ w' = w := Any.slices_Equal_string_empty Tryd.lays193 a1 a2 c m d w hbig2
open Go.RowKit Go.Lib in
open Go.RowKit Go.Lib in
open Go.RowKit Go.Lib in
open Go.RowKit Go.Lib in
theorem Tryd.slices_Equal_string_lens (a1 a2 : Option Addr) (n c m d : Nat) (w : World) (hnm : n ≠ m) :
  Calls Tryd.prog 54 #[.slice a1 n c, .slice a2 m d] w fun e w' => e = .returned (.bool false) ∧ w' = w := Any.slices_Equal_string_lens Tryd.lays193 a1 a2 n c m d w hnm
open Go.RowKit Go.Lib in
open Go.RowKit Go.Lib in
def Tryd.laysnb116_ren : Go.Shelf.Ren := ⟨fun | 116 => 89 | 115 => 105 | n => n, fun | 37 => 38 | 4 => 4 | 3 => 3 | 9 => 9 | 5 => 5 | n => n, fun | n => n⟩
theorem Tryd.laysnb116 : Go.Proofs.Lays.nb116 Tryd.prog Tryd.laysnb116_ren := {
 mixed := by kernel_rfl
 f115 := Tryd.func105.trans (congrArg some (by kernel_rfl))
 f116 := Tryd.func89.trans (congrArg some (by kernel_rfl))
 t3 := Tryd.underlying3
 a3 := Tryd.isAgg3
 z3 := Tryd.sizeOf3
 v3 := Tryd.zeroValue3
 t4 := Tryd.underlying4
 a4 := Tryd.isAgg4
 z4 := Tryd.sizeOf4
 v4 := Tryd.zeroValue4
 t9 := Tryd.underlying9
 a9 := Tryd.isAgg9
 z9 := Tryd.sizeOf9
 v9 := Tryd.zeroValue9
 t37 := Tryd.underlying38
 a37 := Tryd.isAgg38
 z37 := Tryd.sizeOf38
 v37 := Tryd.zeroValue38
 t5 := Tryd.underlying5
 a5 := Tryd.isAgg5
 z5 := Tryd.sizeOf5
 v5 := Tryd.zeroValue5 }
theorem Tryd.bytes_HasPrefix_all (p1 p2 : Option Addr) (n c m d : Nat) (xs ys : List Int) (w : World) (hx : xs.length = n) (hy : ys.length = m) (hnc : n ≤ c) (h1 : Lib.BytesIn w p1 n xs) (h2 : Lib.BytesIn w p2 m ys) :
  Calls Tryd.prog 89 #[.slice p1 n c, .slice p2 m d] w fun e w' => e = .returned (.bool (Lib.hasPrefix (Lib.bytesOf xs) (Lib.bytesOf ys))) ∧ w' = w := Any.bytes_HasPrefix_all Tryd.laysnb116 p1 p2 n c m d xs ys w hx hy hnc h1 h2
end Go.Proofs

namespace Go.Proofs.WV
open Go.RowKit Go.Proofs.KL Go.Proofs.WM
set_option maxRecDepth 100000
set_option linter.unusedSimpArgs false
set_option linter.unusedVariables false

structure Bld (w : World) (g base : Nat) (v : Value) (bs : Bs) : Prop where
 blk : ∃ p, w.heap[g]? = some (.cells #[p, v] 72 (0, 0)) ∧ (p = .pointer none ∨ p = .pointer (some ⟨g, 0, none⟩))
 own : OwnB w base v bs
theorem Bld.ne {w : World} {g base : Nat} {v : Value} {bs : Bs} (h : Bld w g base v bs) : ¬ some g = v.ownBlock := by
 obtain ⟨⟨p, hb, _⟩, h⟩ := h
 rcases h with ⟨rfl, _⟩ | ⟨g', cap, cur, fz, rfl, _, hg, _⟩
 · exact fun e => by cases e
 · intro e
   simp only [Value.ownBlock, Option.some.injEq] at e
   subst e
   have := hb.symm.trans hg
   injection this with this
   injection this with _ this _
   exact absurd this (by decide)
theorem Bld.lt {w : World} {g base : Nat} {v : Value} {bs : Bs} (h : Bld w g base v bs) : g < w.heap.size := by obtain ⟨p, hb, _⟩ := h.blk; exact blk_lt hb
theorem Bld.keep {M : Nat → Prop} {w w' : World} {g base : Nat} {v : Value} {bs : Bs} (h : Bld w g base v bs) (hk : Keeps M w w') (hg : ¬ M g) (hv : ∀ k, v.ownBlock = some k → ¬ M k) : Bld w' g base v bs := by
 obtain ⟨⟨p, hb, hp⟩, ho⟩ := h
 exact ⟨⟨p, hk.blk hb hg, hp⟩, ho.keep hk hv⟩
theorem Bld.after {w w' : World} {g base : Nat} {v : Value} {bs : Bs} (h : Bld w g base v bs) (hk : Keeps Nob w w') : Bld w' g base v bs := h.keep hk id (fun _ _ => id)
structure Wrote (g : Nat) (v : Value) (w w' : World) (v' : Value) : Prop where
 keep : Keeps (fun k => k = g ∨ some k = v.ownBlock) w w'
 row : v'.ownBlock = v.ownBlock ∨ ∃ b, v'.ownBlock = some b ∧ w.heap.size ≤ b
theorem Wrote.refl (g : Nat) (v : Value) (w : World) : Wrote g v w w v := ⟨Keeps.refl _ _, .inl rfl⟩
theorem Wrote.trans {g : Nat} {v v1 v2 : Value} {w w1 w2 : World} (h : Wrote g v w w1 v1) (k : Wrote g v1 w1 w2 v2) : Wrote g v w w2 v2 := by
 have hs := h.keep.size
 refine ⟨h.keep.trans k.keep (fun i hi hm => ?_), ?_⟩
 · rcases hm with e | e
   · exact .inl e
   · rcases h.row with hr | ⟨b, hb, hl⟩
     · exact .inr (e.trans hr)
     · rw [hb] at e; injection e with e; omega
 · rcases k.row with hr | ⟨b, hb, hl⟩
   · rw [hr]; exact h.row
   · exact .inr ⟨b, hb, by omega⟩
theorem Wrote.then {g : Nat} {v v1 : Value} {w w1 w2 : World} (h : Wrote g v w w1 v1) (k : Keeps Nob w1 w2) : Wrote g v w w2 v1 := ⟨h.keep.then k, h.row⟩
theorem Wrote.before {g : Nat} {v v1 : Value} {w w1 w2 : World} (k : Keeps Nob w w1) (h : Wrote g v w1 w2 v1) : Wrote g v w w2 v1 :=
 ⟨(k.mono (fun _ _ h => h.elim)).trans h.keep (fun _ _ h => h), h.row.imp id (fun ⟨b, h1, h2⟩ => ⟨b, h1, Nat.le_trans k.size h2⟩)⟩
theorem byteT38 : ByteT Tryd.prog 38 := ⟨Tryd.underlying38, by kernel_rfl⟩
theorem info38 : ∃ i, Tryd.prog.info? 38 = some i ∧ i.size = 1 := by
 have h : (Tryd.prog.info? 38).map (·.size) = some 1 := by kernel_rfl
 obtain ⟨i, hi, hs⟩ := Option.map_eq_some_iff.1 h
 exact ⟨i, hi, hs⟩
theorem info68 : ∃ i, Tryd.prog.info? 68 = some i ∧ i.size = 1 := by
 have h : (Tryd.prog.info? 68).map (·.size) = some 1 := by kernel_rfl
 obtain ⟨i, hi, hs⟩ := Option.map_eq_some_iff.1 h
 exact ⟨i, hi, hs⟩
theorem info70 : ∃ j, Tryd.prog.info? 70 = some j ∧ j.size = 2 := by
 have h : (Tryd.prog.info? 70).map (·.size) = some 2 := by kernel_rfl
 obtain ⟨i, hi, hs⟩ := Option.map_eq_some_iff.1 h
 exact ⟨i, hi, hs⟩
theorem lies70 : liesAt Tryd.prog Tryd.prog.depth 72 (2 / Tryd.prog.cellsOf 72) 0 70 1 = true := by kernel_rfl
theorem ptr_nn (w : World) : (binOp .eql 68 (.pointer none) (.pointer none)).run Tryd.prog w = .ok (.bool true) w := by kernel_rfl
theorem ptr_sn (g : Nat) (w : World) : (binOp .eql 68 (.pointer (some ⟨g, 0, none⟩)) (.pointer none)).run Tryd.prog w = .ok (.bool false) w := by kernel_rfl
def CheckOut (w : World) (g base : Nat) (v : Value) (bs : Bs) (e : Ending) (w' : World) : Prop := e = .returned (.tuple #[]) ∧ Bld w' g base v bs ∧ w'.heap[g]? = some (.cells #[.pointer (some ⟨g, 0, none⟩), v] 72 (0, 0)) ∧ Keeps (· = g) w w'
set_option maxHeartbeats 1000000 in
theorem copyCheck {w : World} {g base : Nat} {v : Value} {bs : Bs} (h : Bld w g base v bs) : Calls Tryd.prog 94 #[.pointer (some ⟨g, 0, none⟩)] w (CheckOut w g base v bs) := by
 obtain ⟨p, hb, hp⟩ := h.blk
 obtain ⟨j, hj, hjs⟩ := info70
 have H := Lib.hid h
 have hnn := ptr_nn
 have hsn := ptr_sn
 have c0 := (blk_cell hb 0).trans rfl
 rcases hp with rfl | rfl
 · have hsh : w.shape? g = some (72, 2) := by simp [World.shape?, hb]
   have Hb := Lib.hid hb
   obtain ⟨i68, hi68, hs68⟩ := info68
   have HI := Lib.hid (And.intro hi68 hs68)
   clear h hb hi68 hs68
   go_enter Tryd.func94, Tryd.ntmps94
   go_wp2
   rw [Lib.run_to_unsafe w ⟨g, 0, none⟩ Tryd.underlying68 Tryd.underlying126 hj (by rw [hjs]; decide) hsh (Nat.zero_lt_succ 1)]
   simp only [Result.andThen]
   rw [Oper.upon_value]
   go_wp2
   rw [run_callFunc_extern Tryd.func106 (by kernel_rfl) (by kernel_rfl) (by kernel_rfl) (e := Extern.AbiNoEscape.same) (by kernel_rfl)]
   rw [Lib.run_noEscape]
   simp only [Result.andThen]
   rw [Oper.upon_value]
   go_wp2
   rw [Lib.run_from_unsafe w ⟨g, 0, none⟩ Tryd.underlying126 Tryd.underlying68 hj hsh lies70]
   simp only [Result.andThen]
   rw [Oper.upon_value]
   go_wp2_with ((with_reducible refine at_store (t := 68) rfl ?_); go_must (refine ev_store (cs' := #[.pointer (some ⟨g, 0, none⟩), v]) rfl rfl rfl rfl rfl rfl HI.out.1 HI.out.2 rfl Hb.out (Nat.le_of_ble_eq_true rfl) rfl ?_; intro w1 hb1 hk1); have Hb1 := Lib.hid hb1; have HK1 := Lib.hid hk1; clear hb1 hk1; (try simp only [PU]))
   go_end0
   exact ⟨rfl, ⟨⟨_, Hb1.out, .inr rfl⟩, H.out.own.keep HK1.out (fun k hk e => H.out.ne (by rw [hk, e]))⟩, Hb1.out, HK1.out⟩
 · have Hb := Lib.hid hb
   clear h hb
   go_enter Tryd.func94, Tryd.ntmps94
   go_wp2
   rw [Lib.run_neq_ptr_same w _ Tryd.underlying68 hj]
   go_wp2
   go_end0
   exact ⟨rfl, H.out, Hb.out, Keeps.refl _ _⟩
def WOut (w : World) (g base : Nat) (v : Value) (bs : Bs) (e : Ending) (w' : World) : Prop := ∃ x v', e = .returned x ∧ Bld w' g base v' bs ∧ Wrote g v w w' v'
set_option maxHeartbeats 1000000 in
theorem writeByte {w : World} {g base : Nat} {v : Value} {bs : Bs} (h : Bld w g base v bs) (c : UInt8) (hl : bs.length ≤ 100000000000000) (hbase : base ≤ w.heap.size) :
  Calls Tryd.prog 70 #[.pointer (some ⟨g, 0, none⟩), byteV c] w (WOut w g base v (bs ++ [c])) := by
 have Hc := Lib.hid (copyCheck h)
 obtain ⟨i38, hi38, hs38⟩ := info38
 have HI := Lib.hid (And.intro hi38 hs38)
 have Hlt := Lib.hid h.lt
 have hne := h.ne
 have Hne := Lib.hid hne
 obtain ⟨cv, hcv⟩ : ∃ x : Int, ((c.toNat : Nat) : Int) = x := ⟨_, rfl⟩
 have Hcv := Lib.hid hcv
 unfold byteV
 rw [hcv]
 clear h hi38 hs38 hne hcv
 go_enter Tryd.func70, Tryd.ntmps70
 go_wp2_with (first
  | (go_at_call 94; go_must (refine Hc.out.mono ?_; rintro e w1 ⟨rfl, hb1, hblk1, hk1⟩); obtain ⟨vA, vc, rfl⟩ := hb1.own.slice
     have c1 := (blk_cell hblk1 1).trans rfl
     have Hb1 := Lib.hid hb1
     have Hblk1 := Lib.hid hblk1
     have HK1 := Lib.hid hk1
     clear hb1 hblk1 hk1
     (try simp only [PU]))
  | ((with_reducible refine at_dst (N := 13) rfl ?_); go_must (refine ev_slice (cs := #[.int .u8 cv]) (t := 5) (n := 1) (c := 1) rfl (by first | (go_simp; done) | (go_simp; rfl)) ?_; intro g4 w2 hg4 hl4 hb4 hk2); have Hb4 := Lib.hid hb4; have HK2 := Lib.hid hk2; clear hb4 hk2; (try simp only [PU]))
  | ((with_reducible refine at_dst (N := 14) rfl ?_); go_must (refine ev_app_sl (W := w2) rfl rfl byteT38 (base := base) rfl (Hb1.out.own.keep HK2.out (fun _ _ => id)) rfl (news := [c]) rfl (fun _ => ⟨_, rfl, by rw [List.map_cons, List.map_nil]; unfold byteV; rw [Hcv.out]; exact World.news_of_block Hb4.out⟩) (by omega) (by have := HK1.out.size; have := HK2.out.size; omega) ?_; intro v' w3 ho3 ha3; obtain ⟨nA, nc, hv3⟩ := ho3.slice; subst hv3)
     have Ho3 := Lib.hid ho3
     have Ha3 := Lib.hid ha3
     go_must (have Hblk3 := Lib.hid (ha3.keep.blk (HK2.out.blk Hblk1.out id) (fun e => Hne.out e)))
     clear ho3 ha3
     (try simp only [PU]))
  | ((with_reducible refine at_store (t := 38) rfl ?_); go_must (refine ev_store (cs' := #[.pointer (some ⟨g, 0, none⟩), .slice nA (bs ++ [c]).length nc]) rfl rfl rfl rfl rfl rfl HI.out.1 HI.out.2 rfl Hblk3.out (Nat.le_of_ble_eq_true rfl) rfl ?_; intro w4 hb4' hk4); have Hb4' := Lib.hid hb4'; have HK4 := Lib.hid hk4; clear hb4' hk4; (try simp only [PU]))
 )
 go_ret
 have hk : Keeps (fun k => k = g ∨ some k = Value.ownBlock (.slice vA bs.length vc)) w w4 := (((HK1.out.mono (M' := fun k => k = g ∨ some k = Value.ownBlock (.slice vA bs.length vc)) (fun _ _ e => .inl e)).then HK2.out).trans Ha3.out.keep (fun _ _ e => .inr e)).trans HK4.out (fun _ _ e => .inl e)
 have hg : ¬ some g = Value.ownBlock (.slice nA (bs ++ [c]).length nc) := by
  rcases Ha3.out.row with e | ⟨b, e, hb⟩
  · rw [e]; exact Hne.out
  · rw [e]; intro e2; injection e2 with e2; have := HK1.out.size; have := HK2.out.size; have := Hlt.out; omega
 exact ⟨_, _, rfl, ⟨⟨_, Hb4'.out, .inr rfl⟩, Ho3.out.keep HK4.out (fun k hk e => hg (by rw [hk, e]))⟩, hk, Ha3.out.row.imp id (fun ⟨b, h1, h2⟩ => ⟨b, h1, by have := HK1.out.size; have := HK2.out.size; omega⟩)⟩
set_option maxHeartbeats 1000000 in
theorem writeString {w : World} {g base : Nat} {v : Value} {bs : Bs} (h : Bld w g base v bs) (s : ByteArray) (hl : bs.length ≤ 100000000000000) (hs : (bl s).length ≤ 1000000000000) (hbase : base ≤ w.heap.size) :
  Calls Tryd.prog 64 #[.pointer (some ⟨g, 0, none⟩), .string s] w (WOut w g base v (bs ++ bl s)) := by
 have Hc := Lib.hid (copyCheck h)
 obtain ⟨i38, hi38, hs38⟩ := info38
 have HI := Lib.hid (And.intro hi38 hs38)
 have Hlt := Lib.hid h.lt
 have hne := h.ne
 have Hne := Lib.hid hne
 obtain ⟨news, hnews⟩ : ∃ x, bl s = x := ⟨_, rfl⟩
 have Hnews := Lib.hid hnews
 rw [hnews] at hs ⊢
 clear h hi38 hs38 hne hnews
 go_enter Tryd.func64, Tryd.ntmps64
 go_wp2_with (first
  | (go_at_call 94; go_must (refine Hc.out.mono ?_; rintro e w1 ⟨rfl, hb1, hblk1, hk1⟩); obtain ⟨vA, vc, rfl⟩ := hb1.own.slice
     have c1 := (blk_cell hblk1 1).trans rfl
     have Hb1 := Lib.hid hb1
     have Hblk1 := Lib.hid hblk1
     have HK1 := Lib.hid hk1
     clear hb1 hblk1 hk1
     (try simp only [PU]))
  | ((with_reducible refine at_dst (N := 14) rfl ?_); go_must (refine ev_app_str (W := w1) rfl rfl byteT38 Tryd.underlying9 (base := base) rfl Hb1.out.own (st := s) rfl (by rw [Hnews.out]; omega) (by have := HK1.out.size; omega) ?_; rw [Hnews.out]; intro v' w3 ho3 ha3; obtain ⟨nA, nc, hv3⟩ := ho3.slice; subst hv3)
     have Ho3 := Lib.hid ho3
     have Ha3 := Lib.hid ha3
     go_must (have Hblk3 := Lib.hid (ha3.keep.blk Hblk1.out (fun e => Hne.out e)))
     clear ho3 ha3
     (try simp only [PU]))
  | ((with_reducible refine at_store (t := 38) rfl ?_); go_must (refine ev_store (cs' := #[.pointer (some ⟨g, 0, none⟩), .slice nA (bs ++ news).length nc]) rfl rfl rfl rfl rfl rfl HI.out.1 HI.out.2 rfl Hblk3.out (Nat.le_of_ble_eq_true rfl) rfl ?_; intro w4 hb4' hk4); have Hb4' := Lib.hid hb4'; have HK4 := Lib.hid hk4; clear hb4' hk4; (try simp only [PU]))
 )
 go_ret2
 have hk : Keeps (fun k => k = g ∨ some k = Value.ownBlock (.slice vA bs.length vc)) w w4 := ((HK1.out.mono (M' := fun k => k = g ∨ some k = Value.ownBlock (.slice vA bs.length vc)) (fun _ _ e => .inl e)).trans Ha3.out.keep (fun _ _ e => .inr e)).trans HK4.out (fun _ _ e => .inl e)
 have hg : ¬ some g = Value.ownBlock (.slice nA (bs ++ news).length nc) := by
  rcases Ha3.out.row with e | ⟨b, e, hb⟩
  · rw [e]; exact Hne.out
  · rw [e]; intro e2; injection e2 with e2; have := HK1.out.size; have := Hlt.out; omega
 exact ⟨_, _, rfl, ⟨⟨_, Hb4'.out, .inr rfl⟩, Ho3.out.keep HK4.out (fun k hk e => hg (by rw [hk, e]))⟩, hk, Ha3.out.row.imp id (fun ⟨b, h1, h2⟩ => ⟨b, h1, by have := HK1.out.size; omega⟩)⟩
theorem bldLen {w : World} {g base : Nat} {v : Value} {bs : Bs} (h : Bld w g base v bs) : Calls Tryd.prog 40 #[.pointer (some ⟨g, 0, none⟩)] w fun e w' => e = .returned (.int .i64 bs.length) ∧ w = w' := by
 obtain ⟨p, hb, -⟩ := h.blk
 obtain ⟨vA, vc, rfl⟩ := h.own.slice
 have c1 := (blk_cell hb 1).trans rfl
 clear h hb
 go_enter Tryd.func40, Tryd.ntmps40
 go_wp2
 go_ret
 exact ⟨rfl, rfl⟩
end Go.Proofs.WV

namespace Go.Proofs.WM

theorem numB_stop {minus : Bool} {n : Nat} {x : Bs} (hx : startsDigit x = false) : numB minus false n x = .ok (n, x) := by
 cases x with
 | nil => rfl
 | cons c r => unfold numB; rw [if_neg (by simpa [startsDigit] using hx)]
theorem dig_fin : ∀ i : Fin 10, isDigit (UInt8.ofNat (48 + i.val)) = true ∧ digB (UInt8.ofNat (48 + i.val)) = i.val ∧ (i.val ≠ 0 → UInt8.ofNat (48 + i.val) ≠ 48) := by decide +kernel
theorem dig_at {k : Nat} (h : k < 10) : isDigit (UInt8.ofNat (48 + k)) = true ∧ digB (UInt8.ofNat (48 + k)) = k ∧ (k ≠ 0 → UInt8.ofNat (48 + k) ≠ 48) := dig_fin ⟨k, h⟩
theorem decDigits_big {u : Nat} (h : ¬ u < 10) : Lib.decDigits u = Lib.decDigits (u / 10) ++ [UInt8.ofNat (48 + u % 10)] := by rw [Lib.decDigits, dif_neg h]
theorem decDigits_head (u : Nat) : ∃ c q, Lib.decDigits u = c :: q ∧ isDigit c = true := by
 induction u using Nat.strongRecOn with
 | _ u ih =>
   by_cases h : u < 10
   · exact ⟨_, [], Lib.decDigits_one h, (dig_at h).1⟩
   · obtain ⟨c, q, e, hc⟩ := ih (u / 10) (by omega)
     exact ⟨c, q ++ [UInt8.ofNat (48 + u % 10)], by rw [decDigits_big h, e]; rfl, hc⟩
theorem itoa_head {n : Int} : ∃ c q, Lib.itoa n = c :: q ∧ (c = 45 ∨ isDigit c = true) := by
 unfold Lib.itoa
 split
 · exact ⟨45, _, rfl, .inl rfl⟩
 · obtain ⟨c, q, e, hc⟩ := decDigits_head n.toNat
   exact ⟨c, q, e, .inr hc⟩

theorem u8_of (c : UInt8) : c = UInt8.ofNat c.toNat := by simp
theorem mkB_bl (t : ByteArray) : mkB (bl t) = t := by cases t; simp [mkB]

def HeadOk (c : UInt8) : Prop := isBlank c = false ∧ c ≠ 93 ∧ c ≠ 125
instance (c : UInt8) : Decidable (HeadOk c) := inferInstanceAs (Decidable (_ ∧ _))
theorem digit_head {c : UInt8} (h : c = 45 ∨ isDigit c = true) : HeadOk c := by
 have : ∀ i : Fin 256, (UInt8.ofNat i.val = 45 ∨ isDigit (UInt8.ofNat i.val) = true) → isBlank (UInt8.ofNat i.val) = false ∧ UInt8.ofNat i.val ≠ 93 ∧ UInt8.ofNat i.val ≠ 125 := by decide +kernel
 have h2 := this ⟨c.toNat, c.toNat_lt⟩
 simp only at h2
 rw [← u8_of] at h2
 exact h2 h
def pairT (ks : List ByteArray) (vs : List J) : List Bs := List.zipWith (fun q p => quoteB (bl q) ++ [58] ++ p) ks (textL vs)
end Go.Proofs.WM

namespace Go.Proofs.KL
open Go.RowKit Go.Proofs.WM
set_option maxRecDepth 100000

section
variable {P : Program} {ops : Array Oper} {rest : List Oper} {o : Oper} {a : Act} {Q : Exit → Act → World → Prop}
theorem ev_sliceData {W : World} (hgd : o.guard = none) {x : Operand} {t : TypeId} (ho : o.op = .call { callee := .builtin .unsafeSliceData, args := #[x], argTypes := #[t] }) {g n c : Nat} (hx : a.eval x = .slice (some ⟨g, 0, none⟩) n c) (hc : c ≠ 0)
  (h : wpList P ops Q rest (a.put o.dst (.pointer (some ⟨g, 0, none⟩))) W) : wpList P ops Q (o :: rest) a W := by
 refine ev_run hgd (v := .pointer (some ⟨g, 0, none⟩)) (w1 := W) ?_ h
 have hr := Lib.run_unsafeSliceData_row (P := P) W #[t] o.type ⟨g, 0, none⟩ n c hc
 simp [execOp, ho, resolve, invoke, builtin, hx, hr]
theorem freeze_keeps (W : World) (g n : Nat) : Keeps (· = g) W (W.freeze ⟨g, 0, none⟩ n) := by
 unfold World.freeze
 split
 · exact Keeps.refl _ _
 · exact ⟨rfl, rfl, rfl, by simp, fun k _ hn => by simp only [Array.getElem?_modify]; rw [if_neg (fun e => hn e.symm)]⟩
theorem ev_unsafeString {W : World} (hgd : o.guard = none) {x y : Operand} {pt it : TypeId} (ho : o.op = .call { callee := .builtin .unsafeString, args := #[x, y], argTypes := #[pt, it] }) (hp : P.underlying pt = some (.pointer 5)) (hc : P.cellsOf 5 = 1)
  {g : Nat} {cap : Nat} {bs : Bs} {base : Nat} (hx : a.eval x = .pointer (some ⟨g, 0, none⟩)) (hy : a.eval y = .int .i64 bs.length) (hown : OwnB W base (.slice (some ⟨g, 0, none⟩) bs.length cap) bs) (h0 : bs ≠ [])
  (h : ∀ w1, Keeps (· = g) W w1 → wpList P ops Q rest (a.put o.dst (.string (mkB bs))) w1) : wpList P ops Q (o :: rest) a W := by
 rcases hown with ⟨e, _⟩ | ⟨g', cap', cur, fz, e, _, hg, _, hnc, hcm, hcs, htake⟩
 · cases e
 · injection e with e1 e2 e3
   injection e1 with e1
   injection e1 with e1 _
   subst e1
   have hsh : W.shape? g = some (5, cur.size) := by simp [World.shape?, hg]
   have hcell : ∀ j x, bs[j]? = some x → W.cell? ((⟨g, 0, none⟩ : Addr).add j) = some (.int .u8 x.toNat) := fun j x hj => by
    rw [addr_add0]
    have h3 : (cur.toList.take bs.length)[j]? = some (byteV x) := by rw [htake, List.getElem?_map, hj]; rfl
    rw [List.getElem?_take] at h3
    split at h3
    · simp only [World.cell?, hg]; simpa [byteV] using h3
    · cases h3
   have hr := Lib.run_unsafeString_row (P := P) W pt it o.type 5 hp hc g cur.size hsh bs h0 (by omega) (by unfold maxLen at hcm; omega) hcell
   refine ev_run hgd (v := .string (mkB bs)) (w1 := W.freeze ⟨g, 0, none⟩ bs.length) ?_ (h _ (freeze_keeps W g _))
   simp only [execOp, ho, resolve, invoke, builtin, Sem.run_bind, Sem.run_pure, Result.andThen_ok, List.map_toArray, List.map_cons, List.map_nil, hx, hy, hr]
   rfl
theorem fold_push : ∀ (bs : Bs) (s : ByteArray), (bs.map fun c => (c.toNat : Int)).foldl (fun r n => r.push (UInt8.ofNat n.toNat)) s = mkB (bl s ++ bs)
 | [], s => by rw [List.map_nil, List.foldl_nil, List.append_nil, mkB_bl]
 | c :: bs, s => by
   rw [List.map_cons, List.foldl_cons, fold_push bs]
   congr 1
   simp [bl, ByteArray.push]
theorem ev_conv_bs {W : World} (hgd : o.guard = none) {x : Operand} {src dst : TypeId} (ho : o.op = .convert src dst x) (hs : P.underlying src = some (.slice 5)) (h5 : P.underlying 5 = some (.int .u8)) (hd : P.underlying dst = some .string)
  {A : Option Addr} {n c : Nat} {bs : Bs} {X : Nat → Prop} (hx : a.eval x = .slice A n c) (hb : BytesX W X (.slice A n c) bs)
  (h : wpList P ops Q rest (a.put o.dst (.string (mkB bs))) W) : wpList P ops Q (o :: rest) a W := by
 refine ev_run hgd (v := .string (mkB bs)) (w1 := W) ?_ h
 have hr := run_convert_bytes_string (P := P) W src dst 5 A n c hs h5 hd
 suffices hsuf : (Conv.bytesToString (.slice A n c)).run P W = .ok (.string (mkB bs)) W by
  rw [hsuf] at hr
  simp [execOp, ho, hx, hr]
 have hn : n = bs.length := by obtain ⟨_, _, e, _⟩ := hb; injection e
 cases A with
 | none =>
   have : bs = [] := by
    cases bs with
    | nil => rfl
    | cons b bs => obtain ⟨_, _, e2, _, hx⟩ := hb; obtain ⟨b', o', e, _⟩ := hx 0 (by simp); injection e2 with e2 _ _; rw [← e2] at e; cases e
   subst this
   rfl
 | some ad =>
   have hl : (loadCells ad n).run P W = .ok ((bs.map fun c => (c.toNat : Int)).map (Value.int .u8)).toArray W := by
    have e : ((bs.map fun c => (c.toNat : Int)).map (Value.int .u8)) = bs.map byteV := by rw [List.map_map]; rfl
    rw [e]
    rcases Nat.eq_zero_or_pos n with h0 | h0
    · have : bs = [] := List.eq_nil_of_length_eq_zero (by omega)
      subst this
      rw [h0]
      simp [loadCells, loadCellsFrom]
    · obtain ⟨ad', e', hnw⟩ := hb.news h0
      injection e' with e'
      subst e'
      have := run_loadCells_list (P := P) W ad (bs.map byteV) hnw
      rw [List.length_map, ← hn] at this
      exact this
   rw [run_bytesToString W ad n c _ hl, fold_push]
   rfl
end
end Go.Proofs.KL

namespace Go.Proofs.WV
open Go.RowKit Go.Proofs.KL Go.Proofs.WM
set_option maxRecDepth 100000
set_option linter.unusedSimpArgs false
set_option linter.unusedVariables false

theorem cells5 : Tryd.prog.cellsOf 5 = 1 := by kernel_rfl
set_option maxHeartbeats 1000000 in
theorem bldString {w : World} {g base : Nat} {v : Value} {bs : Bs} (h : Bld w g base v bs) (h0 : bs ≠ []) : Calls Tryd.prog 41 #[.pointer (some ⟨g, 0, none⟩)] w fun e w' => e = .returned (.string (mkB bs)) ∧ Keeps (fun k => some k = v.ownBlock) w w' := by
 obtain ⟨p, hb, -⟩ := h.blk
 have ho := h.own
 rcases id h.own with ⟨rfl, e⟩ | ⟨r, cap, cur, fz, rfl, -, -, -, hnc, -⟩
 · exact absurd e h0
 have c1 := (blk_cell hb 1).trans rfl
 have Ho := Lib.hid ho
 have hcap : cap ≠ 0 := by have := List.length_pos_iff.2 h0; omega
 have Hcap := Lib.hid hcap
 have H0 := Lib.hid h0
 have Hne := Lib.hid h.ne
 clear h hb ho hcap h0 hnc
 go_enter Tryd.func41, Tryd.ntmps41
 go_wp2
 refine wp_region_perm [(0, true), (1, true), (2, true), (3, true), (5, true), (6, true), (7, true), (8, true), (9, true), (4, false), (10, false), (11, true)] (fun w' => w'.cell? ⟨g, 1, none⟩ = some (.slice (some ⟨r, 0, none⟩) bs.length cap)) rfl (by kernel_rfl) (by kernel_rfl) (by decide) (fun c a d v w h => by cases d <;> exact h) c1 ?_
 refine pq (some 3) ?_; (try simp only [PU])
 refine pq (some 4) ?_; (try simp only [PU])
 refine pq (some 5) ?_; (try simp only [PU])
 refine pq (some 6) ?_; (try simp only [PU])
 refine pq (some 8) ?_; (try simp only [PU])
 refine pq (some 9) ?_; (try simp only [PU])
 refine pq (some 10) ?_; (try simp only [PU])
 refine pq (some 11) ?_; (try simp only [PU])
 refine pq (some 12) ?_; (try simp only [PU])
 refine perm_e rfl ?_
 go_must (refine ev_sliceData rfl rfl rfl Hcap.out ?_)
 (try simp only [PU])
 refine wpList_nil ⟨c1, ?_⟩
 refine perm_e rfl ?_
 go_must (refine ev_unsafeString (W := w.drew) (bs := bs) (cap := cap) (base := base) rfl rfl Tryd.underlying108 cells5 rfl rfl (Ho.out.keep (Keeps.refl Nob w).drew (fun _ _ => id)) H0.out ?_; intro w1 hk1)
 (try simp only [PU])
 refine wpList_nil ⟨hk1.cell (w := w.drew) c1 (fun e : g = r => Hne.out (by rw [e]; rfl)), ?_⟩
 refine pq (some 2) ?_; (try simp only [PU])
 refine perm_nil ?_
 go_wp2
 go_ret
 exact ⟨rfl, (Keeps.refl _ _).drew.trans hk1 (fun i _ e => by rw [e]; rfl)⟩
theorem writeByteI {w : World} {g base : Nat} {v : Value} {bs : Bs} (h : Bld w g base v bs) (c : UInt8) (cv : Int) (hcv : cv = (c.toNat : Int)) (hl : bs.length ≤ 100000000000000) (hbase : base ≤ w.heap.size) :
  Calls Tryd.prog 70 #[.pointer (some ⟨g, 0, none⟩), .int .u8 cv] w (WOut w g base v (bs ++ [c])) := by
 subst hcv
 exact writeByte h c hl hbase
theorem flatMap_le (s : Bs) : (s.flatMap esc).length ≤ 6 * s.length := by
 induction s with
 | nil => simp
 | cons c l ih => have := (esc_len c).2; simp only [List.flatMap_cons, List.length_append, List.length_cons]; omega
theorem take_succ_bytes (s : ByteArray) (k : Nat) (h : k < s.size) : (bl s).take (k + 1) = (bl s).take k ++ [s[k]] := by
 rw [List.take_succ_eq_append_getElem (by simpa [bl] using h)]; rfl
theorem hex_index (n : Nat) (h : n < 16) : (({ data := #[48, 49, 50, 51, 52, 53, 54, 55, 56, 57, 97, 98, 99, 100, 101, 102] } : ByteArray)[n]?) = some (hexB (UInt8.ofNat n)) := by
 have : ∀ i : Fin 16, (({ data := #[48, 49, 50, 51, 52, 53, 54, 55, 56, 57, 97, 98, 99, 100, 101, 102] } : ByteArray)[i.val]?) = some (hexB (UInt8.ofNat i.val)) := by decide +kernel
 exact this ⟨n, h⟩
theorem and15 (cv : Int) (h0 : 0 ≤ cv) (h1 : cv ≤ 255) : bits BinOp.and IntKind.u8 cv 15 = cv % 16 := by
 have : ∀ i : Fin 256, bits BinOp.and IntKind.u8 ((i.val : Nat) : Int) 15 = ((i.val : Nat) : Int) % 16 := by decide +kernel
 have h := this ⟨cv.toNat, by omega⟩
 simp only [Int.toNat_of_nonneg h0] at h
 exact h
set_option maxHeartbeats 2000000 in
theorem writeText {w : World} {g base : Nat} {v : Value} {bs : Bs} (h : Bld w g base v bs) (s : ByteArray) (hl : bs.length ≤ 1000000000000) (hs : (bl s).length ≤ 1000000000000) (hbase : base ≤ w.heap.size) :
  Calls Tryd.prog 66 #[.pointer (some ⟨g, 0, none⟩), .string s] w (WOut w g base v (bs ++ quoteB (bl s))) := by
 have HB := Lib.hid h
 have HW := Lib.hid (Wrote.refl g v w)
 have hsz : s.size = (bl s).length := by simp [bl]
 have Hsz := Lib.hid hsz
 have hs2 : s.size ≤ 1000000000000 := by omega
 have Hsb := Lib.hid hs
 clear h hsz hs
 go_enter Tryd.func66, Tryd.ntmps66
 go_wp2_with (first
  | (go_at_call 70; (with_reducible show Calls Tryd.prog 70 #[_, Value.int IntKind.u8 34] _ _); go_must (refine (writeByteI HB.out 34 34 rfl (by (try simp only [List.length_append, List.length_cons, List.length_nil]); omega) (by have := HW.out.keep.size; omega)).mono ?_; rintro e w9 ⟨x9, v9, rfl, hb9, hw9⟩); have HB := Lib.hid hb9; have HW := Lib.hid (HW.out.trans hw9); clear hb9 hw9; (try simp only [PU]))
  | (go_at_call 70; (with_reducible show Calls Tryd.prog 70 #[_, Value.int IntKind.u8 92] _ _); go_must (refine (writeByteI HB.out 92 92 rfl (by (try simp only [List.length_append, List.length_cons, List.length_nil]); omega) (by have := HW.out.keep.size; omega)).mono ?_; rintro e w9 ⟨x9, v9, rfl, hb9, hw9⟩); have HB := Lib.hid hb9; have HW := Lib.hid (HW.out.trans hw9); clear hb9 hw9; (try simp only [PU]))
 )
 go_loopw [12] (fun iv wr => ∃ (k : Nat) (v' : Value), iv = .int .i64 k ∧ k ≤ s.size ∧ Hid (Bld wr g base v' (bs ++ [34] ++ ((bl s).take k).flatMap esc)) ∧ Hid (Wrote g v w wr v')) (fun iv _ => s.size - (intOf iv).toNat)
 case atStart => exact ⟨0, _, rfl, Nat.zero_le _, by simpa using HB, HW⟩
 case round =>
  obtain ⟨k, v', rfl, hk, HB, HW⟩ := hrel
  by_cases hlt : k < s.size
  · have htk := take_succ_bytes s k hlt
    have hfl := flatMap_le ((bl s).take k)
    have htl : ((bl s).take k).length ≤ s.size := by rw [Hsz.out]; exact List.length_take_le' _ _
    obtain ⟨B0, hB0⟩ : ∃ x, bs ++ [34] ++ ((bl s).take k).flatMap esc = x := ⟨_, rfl⟩
    have hB0l : B0.length ≤ 10000000000000 := by rw [← hB0]; simp only [List.length_append, List.length_cons, List.length_nil]; omega
    have hnext : bs ++ [34] ++ ((bl s).take (k + 1)).flatMap esc = B0 ++ esc s[k] := by rw [htk, List.flatMap_append, ← List.append_assoc, hB0]; simp
    rw [hB0] at HB
    have Hnext := Lib.hid hnext
    clear htk hfl htl hB0 hnext
    obtain ⟨c, hc⟩ : ∃ x, s[k] = x := ⟨_, rfl⟩
    rw [hc] at Hnext
    have hcl := c.toNat_lt
    obtain ⟨cv, hcv⟩ : ∃ x : Int, (c.toNat : Int) = x := ⟨_, rfl⟩
    have hsk : ((s[k].toNat : Nat) : Int) = cv := by rw [hc]; exact hcv
    have hcu : c = UInt8.ofNat cv.toNat := by rw [← hcv, Int.toNat_natCast]; exact u8_of c
    have hr0 : 0 ≤ cv := by omega
    have hr1 : cv ≤ 255 := by omega
    have Hcv := Lib.hid hcv
    have Hcu := Lib.hid hcu
    have hne : ∀ n : Nat, n < 256 → cv ≠ n → c ≠ UInt8.ofNat n := fun n hn h e => h (by rw [← Hcv.out, e]; simp; omega)
    have Hne := Lib.hid hne
    clear hc hcl hcv hcu hne
    by_cases h34 : cv = 34
    · subst h34
      have hesc : esc c = [92] ++ [c] := by rw [Hcu.out]; rfl
      have Hesc := Lib.hid hesc
      clear hesc
      go_wp2_with (first
       | (go_at_call 70; (with_reducible show Calls Tryd.prog 70 #[_, Value.int IntKind.u8 92] _ _); go_must (refine (writeByteI HB.out 92 92 rfl (by (try simp only [List.length_append, List.length_cons, List.length_nil]); omega) (by have := HW.out.keep.size; omega)).mono ?_; rintro e w9 ⟨x9, v9, rfl, hb9, hw9⟩); have HB := Lib.hid hb9; have HW := Lib.hid (HW.out.trans hw9); clear hb9 hw9; (try simp only [PU]))
       | (go_at_call 70; go_must (refine (writeByteI HB.out c 34 Hcv.out.symm (by (try simp only [List.length_append, List.length_cons, List.length_nil]); omega) (by have := HW.out.keep.size; omega)).mono ?_; rintro e w9 ⟨x9, v9, rfl, hb9, hw9⟩); have HB := Lib.hid hb9; have HW := Lib.hid (HW.out.trans hw9); clear hb9 hw9; (try simp only [PU]))
      )
      go_roundw
      case rel => exact ⟨k + 1, v9, by go_num, by omega, by rw [Hnext.out, Hesc.out]; first | (simpa using HB) | (rw [show c = 92 from Hcu.out]; simpa using HB), HW⟩
      case measure => simp [intOf]; omega
    · by_cases h92 : cv = 92
      · subst h92
        have hesc : esc c = [92] ++ [c] := by rw [Hcu.out]; rfl
        have Hesc := Lib.hid hesc
        clear hesc
        go_wp2_with (first
         | (go_at_call 70; (with_reducible show Calls Tryd.prog 70 #[_, Value.int IntKind.u8 92] _ _); go_must (refine (writeByteI HB.out 92 92 rfl (by (try simp only [List.length_append, List.length_cons, List.length_nil]); omega) (by have := HW.out.keep.size; omega)).mono ?_; rintro e w9 ⟨x9, v9, rfl, hb9, hw9⟩); have HB := Lib.hid hb9; have HW := Lib.hid (HW.out.trans hw9); clear hb9 hw9; (try simp only [PU]))
         | (go_at_call 70; go_must (refine (writeByteI HB.out c 92 Hcv.out.symm (by (try simp only [List.length_append, List.length_cons, List.length_nil]); omega) (by have := HW.out.keep.size; omega)).mono ?_; rintro e w9 ⟨x9, v9, rfl, hb9, hw9⟩); have HB := Lib.hid hb9; have HW := Lib.hid (HW.out.trans hw9); clear hb9 hw9; (try simp only [PU]))
        )
        go_roundw
        case rel => exact ⟨k + 1, v9, by go_num, by omega, by rw [Hnext.out, Hesc.out]; first | (simpa using HB) | (rw [show c = 92 from Hcu.out]; simpa using HB), HW⟩
        case measure => simp [intOf]; omega
      · have n34 : (cv == 34) = false := by simpa using h34
        have n92 : (cv == 92) = false := by simpa using h92
        by_cases h10 : cv = 10
        · subst h10
          have hesc : esc c = bl ⟨#[92, 110]⟩ := by rw [Hcu.out]; rfl
          have Hesc := Lib.hid hesc
          clear hesc h34 h92
          go_wp2_with (first
           | (go_at_call 64; go_must (refine (writeString HB.out ⟨#[92, 110]⟩ (by (try simp only [List.length_append, List.length_cons, List.length_nil]); omega) (by decide) (by have := HW.out.keep.size; omega)).mono ?_; rintro e w9 ⟨x9, v9, rfl, hb9, hw9⟩); have HB := Lib.hid hb9; have HW := Lib.hid (HW.out.trans hw9); clear hb9 hw9; (try simp only [PU]))
          )
          go_roundw
          case rel => exact ⟨k + 1, v9, by go_num, by omega, by rw [Hnext.out, Hesc.out]; exact HB, HW⟩
          case measure => simp [intOf]; omega
        · have n10 : (cv == 10) = false := by simpa using h10
          by_cases hpl : 32 ≤ cv ∧ cv ≤ 126
          · obtain ⟨hp1, hp2⟩ := hpl
            have hq1 : ¬ cv < 32 := by omega
            have hq2 : ¬ 126 < cv := by omega
            have hesc : esc c = [c] := by
             unfold esc
             have a1 : c ≠ 34 := Hne.out 34 (by decide) h34
             have a2 : c ≠ 92 := Hne.out 92 (by decide) h92
             have a3 : c ≠ 10 := Hne.out 10 (by decide) h10
             rw [if_neg (by simp only [not_or]; exact ⟨a1, a2⟩), if_neg a3, if_neg (by
              simp only [not_or, UInt8.not_lt, UInt8.le_iff_toNat_le]
              have := Hcv.out
              refine ⟨?_, ?_⟩
              · show 32 ≤ c.toNat; omega
              · show c.toNat ≤ 126; omega)]
            have Hesc := Lib.hid hesc
            clear hesc h34 h92 h10
            go_wp2_with (first
             | (go_at_call 70; go_must (refine (writeByteI HB.out c cv Hcv.out.symm (by (try simp only [List.length_append, List.length_cons, List.length_nil]); omega) (by have := HW.out.keep.size; omega)).mono ?_; rintro e w9 ⟨x9, v9, rfl, hb9, hw9⟩); have HB := Lib.hid hb9; have HW := Lib.hid (HW.out.trans hw9); clear hb9 hw9; (try simp only [PU]))
            )
            go_roundw
            case rel => exact ⟨k + 1, v9, by go_num, by omega, by rw [Hnext.out, Hesc.out]; exact HB, HW⟩
            case measure => simp [intOf]; omega
          · have hesc : esc c = bl ⟨#[92, 117, 48, 48]⟩ ++ [hexB (c / 16)] ++ [hexB (c % 16)] := by
             unfold esc
             have a1 : c ≠ 34 := Hne.out 34 (by decide) h34
             have a2 : c ≠ 92 := Hne.out 92 (by decide) h92
             have a3 : c ≠ 10 := Hne.out 10 (by decide) h10
             rw [if_neg (by simp only [not_or]; exact ⟨a1, a2⟩), if_neg a3, if_pos (by
              have := Hcv.out
              rcases Nat.lt_or_ge c.toNat 32 with h | h
              · exact .inl (UInt8.lt_iff_toNat_lt.2 h)
              · exact .inr (UInt8.lt_iff_toNat_lt.2 (by show 126 < c.toNat; omega)))]
             rfl
            have Hesc := Lib.hid hesc
            by_cases hlo : cv < 32
            · clear hesc h34 h92 h10 hpl
              have hq1 : 0 ≤ cv / 16 := by omega
              have hq2 : 0 ≤ cv % 16 := by omega
              obtain ⟨d1, hd1⟩ : ∃ x, hexB (c / 16) = x := ⟨_, rfl⟩
              obtain ⟨d2, hd2⟩ : ∃ x, hexB (c % 16) = x := ⟨_, rfl⟩
              have hz1 : (({ data := #[48, 49, 50, 51, 52, 53, 54, 55, 56, 57, 97, 98, 99, 100, 101, 102] } : ByteArray)[(cv / 16).toNat]?) = some d1 := by
               rw [hex_index _ (by omega), ← hd1]
               congr 2
               apply UInt8.toNat.inj
               rw [UInt8.toNat_div]
               have h2 := Hcv.out
               simp
               omega
              have hz2 : (({ data := #[48, 49, 50, 51, 52, 53, 54, 55, 56, 57, 97, 98, 99, 100, 101, 102] } : ByteArray)[(cv % 16).toNat]?) = some d2 := by
               rw [hex_index _ (by omega), ← hd2]
               congr 2
               apply UInt8.toNat.inj
               rw [UInt8.toNat_mod]
               have h2 := Hcv.out
               simp
               omega
              have hand := and15 cv hr0 hr1
              have hq3 : cv / 16 < 16 := by omega
              have hq4 : cv % 16 < 16 := by omega
              have hl1 : (cv / 16).toNat < ({ data := #[48, 49, 50, 51, 52, 53, 54, 55, 56, 57, 97, 98, 99, 100, 101, 102] } : ByteArray).size := by show (cv / 16).toNat < 16; omega
              have hl2 : (cv % 16).toNat < ({ data := #[48, 49, 50, 51, 52, 53, 54, 55, 56, 57, 97, 98, 99, 100, 101, 102] } : ByteArray).size := by show (cv % 16).toNat < 16; omega
              have hx1 : ({ data := #[48, 49, 50, 51, 52, 53, 54, 55, 56, 57, 97, 98, 99, 100, 101, 102] } : ByteArray)[(cv / 16).toNat]'hl1 = d1 := Option.some.inj ((getElem?_pos ({ data := #[48, 49, 50, 51, 52, 53, 54, 55, 56, 57, 97, 98, 99, 100, 101, 102] } : ByteArray) (cv / 16).toNat hl1).symm.trans hz1)
              have hx2 : ({ data := #[48, 49, 50, 51, 52, 53, 54, 55, 56, 57, 97, 98, 99, 100, 101, 102] } : ByteArray)[(cv % 16).toNat]'hl2 = d2 := Option.some.inj ((getElem?_pos ({ data := #[48, 49, 50, 51, 52, 53, 54, 55, 56, 57, 97, 98, 99, 100, 101, 102] } : ByteArray) (cv % 16).toNat hl2).symm.trans hz2)
              clear hz1 hz2
              have Hd := Lib.hid (And.intro hd1 hd2)
              clear hd1 hd2
              go_wp2_with (first
               | (go_at_call 64; go_must (refine (writeString HB.out ⟨#[92, 117, 48, 48]⟩ (by (try simp only [List.length_append, List.length_cons, List.length_nil]); omega) (by decide) (by have := HW.out.keep.size; omega)).mono ?_; rintro e w9 ⟨x9, v9, rfl, hb9, hw9⟩); have HB := Lib.hid hb9; have HW := Lib.hid (HW.out.trans hw9); clear hb9 hw9; (try simp only [PU]))
              )
              refine wp_region_perm [(0, true), (1, true), (2, true), (3, true), (4, true), (5, true), (6, false)] (fun w' => True) rfl (by kernel_rfl) (by kernel_rfl) (by decide) (fun c a d v w h => by cases d <;> exact h) trivial ?_
              refine pq (some 57) ?_; (try simp only [PU])
              refine pq (some 58) ?_; (try simp only [PU])
              refine pq (some 59) ?_; (try simp only [PU])
              refine pq (some 60) ?_; (try simp only [PU])
              refine pq (some 61) ?_; (try simp only [PU])
              refine pq (some 62) ?_; (try simp only [PU])
              refine perm_e rfl ?_
              go_wp2_with (go_at_call 70; go_must (refine (writeByteI (HB.out.after (Keeps.refl Nob w9).drew) d1 _ rfl (by (try simp only [List.length_append, List.length_cons, List.length_nil]); simp [bl]; omega) (by have := HW.out.keep.size; exact Nat.le_trans hbase this)).mono ?_; rintro e w10 ⟨x10, v10, rfl, hb10, hw10⟩))
              have HB := Lib.hid hb10
              have HW := Lib.hid ((HW.out.then (Keeps.refl Nob w9).drew).trans hw10)
              clear hb10 hw10
              (try simp only [PU])
              refine ⟨trivial, ?_⟩
              refine perm_nil ?_
              go_wp2_with fail
              refine wp_region_perm [(0, true), (1, true), (2, true), (3, true), (4, true), (5, true), (6, false)] (fun w' => True) rfl (by kernel_rfl) (by kernel_rfl) (by decide) (fun c a d v w h => by cases d <;> exact h) trivial ?_
              refine pq (some 64) ?_; (try simp only [PU])
              refine pq (some 65) ?_; (try simp only [PU])
              refine pq (some 66) ?_; (try simp only [PU])
              refine pq (some 67) ?_; (try simp only [PU])
              refine pq (some 68) ?_; (try simp only [PU])
              refine pq (some 69) ?_; (try simp only [PU])
              refine perm_e rfl ?_
              go_wp2_with (go_at_call 70; go_must (refine (writeByteI (HB.out.after (Keeps.refl Nob w10).drew) d2 _ rfl (by (try simp only [List.length_append, List.length_cons, List.length_nil]); simp [bl]; omega) (by have := HW.out.keep.size; exact Nat.le_trans hbase this)).mono ?_; rintro e w11 ⟨x11, v11, rfl, hb11, hw11⟩))
              have HB := Lib.hid hb11
              have HW := Lib.hid ((HW.out.then (Keeps.refl Nob w10).drew).trans hw11)
              clear hb11 hw11
              (try simp only [PU])
              refine ⟨trivial, ?_⟩
              refine perm_nil ?_
              go_wp2
              go_roundw
              case rel => exact ⟨k + 1, v11, by go_num, by omega, by rw [Hnext.out, Hesc.out, Hd.out.1, Hd.out.2]; simpa using HB, HW⟩
              case measure => simp [intOf]; omega
            · have hhi : 126 < cv := by omega
              clear hesc h34 h92 h10 hpl
              have hq1 : 0 ≤ cv / 16 := by omega
              have hq2 : 0 ≤ cv % 16 := by omega
              obtain ⟨d1, hd1⟩ : ∃ x, hexB (c / 16) = x := ⟨_, rfl⟩
              obtain ⟨d2, hd2⟩ : ∃ x, hexB (c % 16) = x := ⟨_, rfl⟩
              have hz1 : (({ data := #[48, 49, 50, 51, 52, 53, 54, 55, 56, 57, 97, 98, 99, 100, 101, 102] } : ByteArray)[(cv / 16).toNat]?) = some d1 := by
               rw [hex_index _ (by omega), ← hd1]
               congr 2
               apply UInt8.toNat.inj
               rw [UInt8.toNat_div]
               have h2 := Hcv.out
               simp
               omega
              have hz2 : (({ data := #[48, 49, 50, 51, 52, 53, 54, 55, 56, 57, 97, 98, 99, 100, 101, 102] } : ByteArray)[(cv % 16).toNat]?) = some d2 := by
               rw [hex_index _ (by omega), ← hd2]
               congr 2
               apply UInt8.toNat.inj
               rw [UInt8.toNat_mod]
               have h2 := Hcv.out
               simp
               omega
              have hand := and15 cv hr0 hr1
              have hq3 : cv / 16 < 16 := by omega
              have hq4 : cv % 16 < 16 := by omega
              have hl1 : (cv / 16).toNat < ({ data := #[48, 49, 50, 51, 52, 53, 54, 55, 56, 57, 97, 98, 99, 100, 101, 102] } : ByteArray).size := by show (cv / 16).toNat < 16; omega
              have hl2 : (cv % 16).toNat < ({ data := #[48, 49, 50, 51, 52, 53, 54, 55, 56, 57, 97, 98, 99, 100, 101, 102] } : ByteArray).size := by show (cv % 16).toNat < 16; omega
              have hx1 : ({ data := #[48, 49, 50, 51, 52, 53, 54, 55, 56, 57, 97, 98, 99, 100, 101, 102] } : ByteArray)[(cv / 16).toNat]'hl1 = d1 := Option.some.inj ((getElem?_pos ({ data := #[48, 49, 50, 51, 52, 53, 54, 55, 56, 57, 97, 98, 99, 100, 101, 102] } : ByteArray) (cv / 16).toNat hl1).symm.trans hz1)
              have hx2 : ({ data := #[48, 49, 50, 51, 52, 53, 54, 55, 56, 57, 97, 98, 99, 100, 101, 102] } : ByteArray)[(cv % 16).toNat]'hl2 = d2 := Option.some.inj ((getElem?_pos ({ data := #[48, 49, 50, 51, 52, 53, 54, 55, 56, 57, 97, 98, 99, 100, 101, 102] } : ByteArray) (cv % 16).toNat hl2).symm.trans hz2)
              clear hz1 hz2
              have Hd := Lib.hid (And.intro hd1 hd2)
              clear hd1 hd2
              go_wp2_with (first
               | (go_at_call 64; go_must (refine (writeString HB.out ⟨#[92, 117, 48, 48]⟩ (by (try simp only [List.length_append, List.length_cons, List.length_nil]); omega) (by decide) (by have := HW.out.keep.size; omega)).mono ?_; rintro e w9 ⟨x9, v9, rfl, hb9, hw9⟩); have HB := Lib.hid hb9; have HW := Lib.hid (HW.out.trans hw9); clear hb9 hw9; (try simp only [PU]))
              )
              refine wp_region_perm [(0, true), (1, true), (2, true), (3, true), (4, true), (5, true), (6, false)] (fun w' => True) rfl (by kernel_rfl) (by kernel_rfl) (by decide) (fun c a d v w h => by cases d <;> exact h) trivial ?_
              refine pq (some 57) ?_; (try simp only [PU])
              refine pq (some 58) ?_; (try simp only [PU])
              refine pq (some 59) ?_; (try simp only [PU])
              refine pq (some 60) ?_; (try simp only [PU])
              refine pq (some 61) ?_; (try simp only [PU])
              refine pq (some 62) ?_; (try simp only [PU])
              refine perm_e rfl ?_
              go_wp2_with (go_at_call 70; go_must (refine (writeByteI (HB.out.after (Keeps.refl Nob w9).drew) d1 _ rfl (by (try simp only [List.length_append, List.length_cons, List.length_nil]); simp [bl]; omega) (by have := HW.out.keep.size; exact Nat.le_trans hbase this)).mono ?_; rintro e w10 ⟨x10, v10, rfl, hb10, hw10⟩))
              have HB := Lib.hid hb10
              have HW := Lib.hid ((HW.out.then (Keeps.refl Nob w9).drew).trans hw10)
              clear hb10 hw10
              (try simp only [PU])
              refine ⟨trivial, ?_⟩
              refine perm_nil ?_
              go_wp2_with fail
              refine wp_region_perm [(0, true), (1, true), (2, true), (3, true), (4, true), (5, true), (6, false)] (fun w' => True) rfl (by kernel_rfl) (by kernel_rfl) (by decide) (fun c a d v w h => by cases d <;> exact h) trivial ?_
              refine pq (some 64) ?_; (try simp only [PU])
              refine pq (some 65) ?_; (try simp only [PU])
              refine pq (some 66) ?_; (try simp only [PU])
              refine pq (some 67) ?_; (try simp only [PU])
              refine pq (some 68) ?_; (try simp only [PU])
              refine pq (some 69) ?_; (try simp only [PU])
              refine perm_e rfl ?_
              go_wp2_with (go_at_call 70; go_must (refine (writeByteI (HB.out.after (Keeps.refl Nob w10).drew) d2 _ rfl (by (try simp only [List.length_append, List.length_cons, List.length_nil]); simp [bl]; omega) (by have := HW.out.keep.size; exact Nat.le_trans hbase this)).mono ?_; rintro e w11 ⟨x11, v11, rfl, hb11, hw11⟩))
              have HB := Lib.hid hb11
              have HW := Lib.hid ((HW.out.then (Keeps.refl Nob w10).drew).trans hw11)
              clear hb11 hw11
              (try simp only [PU])
              refine ⟨trivial, ?_⟩
              refine perm_nil ?_
              go_wp2
              go_roundw
              case rel => exact ⟨k + 1, v11, by go_num, by omega, by rw [Hnext.out, Hesc.out, Hd.out.1, Hd.out.2]; simpa using HB, HW⟩
              case measure => simp [intOf]; omega
  · have hk' : k = s.size := by omega
    subst hk'
    rw [Hsz.out, List.take_length] at HB
    have hfl := flatMap_le (bl s)
    have hbl := Hsb.out
    have hB0l : (bs ++ [34] ++ (bl s).flatMap esc).length ≤ 10000000000000 := by simp only [List.length_append, List.length_cons, List.length_nil]; omega
    have hq : quoteB (bl s) = [34] ++ (bl s).flatMap esc ++ [34] := rfl
    have Hq := Lib.hid hq
    have HB0 := Lib.hid hB0l
    clear hfl hbl hB0l hq
    go_wp2_with (go_at_call 70; go_must (refine (writeByteI HB.out 34 34 rfl (by have := HB0.out; omega) (by have := HW.out.keep.size; omega)).mono ?_; rintro e w9 ⟨x9, v9, rfl, hb9, hw9⟩); have HB := Lib.hid hb9; have HW := Lib.hid (HW.out.trans hw9); clear hb9 hw9; (try simp only [PU]))
    go_end0
    exact ⟨_, v9, rfl, by rw [Hq.out]; simpa using HB.out, HW.out⟩
end Go.Proofs.WV

namespace Go.Proofs.WM

theorem bl_len (s : ByteArray) : (bl s).length = s.size := by simp [bl]
theorem quotes_len : ∀ ks : List ByteArray, quotes ks ≤ 6 * (ks.map ByteArray.size).sum + 3 * ks.length
 | [] => by simp [quotes]
 | k :: ks => by
   have h1 := quotes_len ks
   have h2 := quoteB_len (bl k)
   rw [bl_len] at h2
   simp only [quotes, List.map_cons, List.sum_cons, List.length_cons] at h1 ⊢
   omega
mutual
theorem text_size : ∀ j : J, formedJ j = true → (textJ j).length + 1 ≤ 20 * sizeJ j
 | .mk k b n t ks vs, hf => by
   unfold formedJ at hf
   simp only [fineJ, Bool.and_eq_true, Bool.or_eq_true, decide_eq_true_eq, Bool.not_eq_true', decide_eq_false_iff_not] at hf
   obtain ⟨⟨⟨⟨⟨⟨⟨⟨⟨⟨h1, h2⟩, hb⟩, hn⟩, ht⟩, hks⟩, hvs⟩, hr⟩, hlen⟩, hnd⟩, hfl⟩ := hf
   have hl := text_sizeL vs hfl
   have hi := itoa_len (n := n) hr
   have hq := quoteB_len (bl t)
   rw [bl_len] at hq
   have hj := joinC_len (textL vs)
   rw [textL_length] at hj
   have hz := zip_len ks (textL vs)
   have hjz := joinC_len (List.zipWith (fun q p => quoteB (bl q) ++ [58] ++ p) ks (textL vs))
   have hzl : (List.zipWith (fun q p => quoteB (bl q) ++ [58] ++ p) ks (textL vs)).length ≤ ks.length := by rw [List.length_zipWith]; exact Nat.min_le_left _ _
   have hkq := quotes_len ks
   unfold textJ sizeJ
   split
   · simp only [List.length_cons, List.length_nil]; omega
   split
   · split <;> (simp only [List.length_cons, List.length_nil]; omega)
   split
   · omega
   split
   · omega
   split
   · simp only [List.length_append, List.length_cons, List.length_nil]; omega
   · simp only [List.length_append, List.length_cons, List.length_nil] at hjz hz hzl ⊢; omega
theorem text_sizeL : ∀ vs : List J, formedL vs = true → lens (textL vs) + vs.length ≤ 20 * sizeL vs
 | [], _ => by simp [lens, textL]
 | v :: vs, hf => by
   simp only [formedL, Bool.and_eq_true] at hf
   have h1 := text_size v hf.1
   have h2 := text_sizeL vs hf.2
   simp only [lens, textL, List.map_cons, List.sum_cons, sizeL, List.length_cons] at h2 ⊢
   omega
end
theorem textL_get : ∀ {vs : List J} {i : Nat}, i < vs.length → (textL vs).getD i [] = textJ (vs.getD i default)
 | v :: vs, 0, _ => by simp [textL]
 | v :: vs, i + 1, h => by simp only [textL, List.getD_cons_succ]; exact textL_get (by simpa using h)
theorem pairT_get : ∀ {ks : List ByteArray} {vs : List J} {i : Nat}, i < vs.length → ks.length = vs.length → (pairT ks vs).getD i [] = quoteB (bl (ks.getD i ByteArray.empty)) ++ [58] ++ textJ (vs.getD i default)
 | k :: ks, v :: vs, 0, _, _ => by simp [pairT, textL]
 | k :: ks, v :: vs, i + 1, h, hl => by
   simp only [pairT, textL, List.zipWith_cons_cons, List.getD_cons_succ]
   exact pairT_get (by simpa using h) (by simpa using hl)
 | [], v :: vs, _, _, hl => by simp at hl
theorem pairT_length {ks : List ByteArray} {vs : List J} (h : ks.length = vs.length) : (pairT ks vs).length = vs.length := by
 unfold pairT
 rw [List.length_zipWith, textL_length, h, Nat.min_self]
theorem formed_get : ∀ {vs : List J} {i : Nat}, formedL vs = true → i < vs.length → formedJ (vs.getD i default) = true
 | v :: vs, 0, hf, _ => by simp only [formedL, Bool.and_eq_true] at hf; simpa using hf.1
 | v :: vs, i + 1, hf, h => by simp only [formedL, Bool.and_eq_true] at hf; simp only [List.getD_cons_succ]; exact formed_get hf.2 (by simpa using h)
theorem joinC_take {ps : List Bs} {k : Nat} (h : k < ps.length) : joinC (ps.take (k + 1)) = if k = 0 then ps.getD k [] else joinC (ps.take k) ++ (44 :: ps.getD k []) := by
 have e : ps.take (k + 1) = ps.take k ++ [ps.getD k []] := by
  rw [List.take_succ_eq_append_getElem h, List.getD_eq_getElem?_getD, List.getElem?_eq_getElem h]; rfl
 rw [e, joinC_snoc]
 by_cases h0 : k = 0
 · subst h0; simp
 · rw [if_neg h0, if_neg (fun h2 => by have := congrArg List.length h2; simp only [List.length_take, List.length_nil] at this; omega)]
theorem joinC_take_len (ps : List Bs) (k : Nat) : (joinC (ps.take k)).length ≤ lens ps + ps.length := by
 have h1 := joinC_len (ps.take k)
 have h2 : lens ps = lens (ps.take k) + lens (ps.drop k) := by rw [← lens_append, List.take_append_drop]
 have h3 : (ps.take k).length ≤ ps.length := List.length_take_le' _ _
 omega
end Go.Proofs.WM

namespace Go.Proofs.WV
open Go.RowKit Go.Proofs.KL Go.Proofs.WM
set_option maxRecDepth 100000
set_option linter.unusedSimpArgs false
set_option linter.unusedVariables false

set_option maxHeartbeats 2000000 in
theorem list68 (o c : UInt8) (g base p2 p3 : Nat) (parts : List Bs) (W : World) (v : Value) (bs : Bs) (hb : Bld W g base v bs) (hbase : base ≤ W.heap.size) (hL : bs.length + lens parts + parts.length + 1 ≤ 1000000000000)
  (hp : ∀ k, k < parts.length → ∀ W' v' bs', Bld W' g base v' bs' → Wrote g v W W' v' → bs'.length + (parts.getD k []).length ≤ 1000000000000 → Calls Tryd.prog 68 #[.int .i64 k, .pointer (some ⟨p2, 0, none⟩), .pointer (some ⟨p3, 0, none⟩)] W' (WOut W' g base v' (bs' ++ parts.getD k []))) :
  Calls Tryd.prog 67 #[.pointer (some ⟨g, 0, none⟩), .string ⟨#[o, c]⟩, .int .i64 parts.length, .func (.func 68) #[] #[.pointer (some ⟨p2, 0, none⟩), .pointer (some ⟨p3, 0, none⟩)]] W (WOut W g base v (bs ++ [o] ++ joinC parts ++ [c])) := by
 skip
 have HB := Lib.hid hb
 have HW := Lib.hid (Wrote.refl g v W)
 have HP := Lib.hid hp
 have HL := Lib.hid hL
 obtain ⟨n, hn⟩ : ∃ n, parts.length = n := ⟨_, rfl⟩
 have Hn := Lib.hid hn
 rw [hn] at hL ⊢
 have hoc : (o.toNat : Int) = (o.toNat : Int) := rfl
 clear hb hp hn hoc
 go_enter Tryd.func67, Tryd.ntmps67
 go_wp2_with fail
 refine wp_region_perm [(0, true), (1, true), (2, true), (3, true), (4, true), (5, false)] (fun w' => True) rfl (by kernel_rfl) (by kernel_rfl) (by decide) (fun c a d v w h => by cases d <;> exact h) trivial ?_
 refine pq (some 9) ?_; (try simp only [PU])
 refine pq (some 10) ?_; (try simp only [PU])
 refine pq (some 11) ?_; (try simp only [PU])
 refine pq (some 12) ?_; (try simp only [PU])
 refine pq (some 13) ?_; (try simp only [PU])
 refine perm_e rfl ?_
 go_wp2_with (go_at_call 70; go_must (refine (writeByteI (HB.out.after (Keeps.refl Nob W).drew) o _ rfl (by omega) hbase).mono ?_; rintro e w1 ⟨x1, v1, rfl, hb1, hw1⟩))
 have HB := Lib.hid hb1
 have HW := Lib.hid ((HW.out.then (Keeps.refl Nob W).drew).trans hw1)
 clear hb1 hw1
 (try simp only [PU])
 refine ⟨trivial, ?_⟩
 refine perm_nil ?_
 go_wp2
 go_loopw [16] (fun iv wr => ∃ (k : Nat) (v' : Value), iv = .int .i64 k ∧ k ≤ n ∧ Hid (Bld wr g base v' (bs ++ [o] ++ joinC (parts.take k))) ∧ Hid (Wrote g v W wr v')) (fun iv _ => n - (intOf iv).toNat)
 case atStart => exact ⟨0, v1, rfl, Nat.zero_le _, by simpa [joinC] using HB, HW⟩
 case round =>
  obtain ⟨k, v', rfl, hk, HB, HW⟩ := hrel
  by_cases hlt : k < n
  · have hjt := joinC_take (ps := parts) (k := k) (by rw [Hn.out]; exact hlt)
    have hjl := joinC_take_len parts k
    have hjl2 := joinC_take_len parts (k + 1)
    rw [Hn.out] at hjl hjl2
    obtain ⟨B0, hB0⟩ : ∃ x, bs ++ [o] ++ joinC (parts.take k) = x := ⟨_, rfl⟩
    have hB0l : B0.length ≤ 20000000000000 := by rw [← hB0]; simp only [List.length_append, List.length_cons, List.length_nil]; omega
    rw [hB0] at HB
    have Hjt := Lib.hid hjt
    have HB0 := Lib.hid hB0
    have Hrun := Lib.hid (fun W' v' bs' h1 h2 h3 => HP.out k (by rw [Hn.out]; exact hlt) W' v' bs' h1 h2 h3)
    obtain ⟨p, hpp⟩ : ∃ x, parts.getD k [] = x := ⟨_, rfl⟩
    rw [hpp] at Hrun Hjt
    have hall : bs.length + 1 + (joinC (parts.take (k + 1))).length ≤ 1000000000000 := by omega
    clear hjt hjl hjl2 hpp
    by_cases hk0 : k = 0
    · subst hk0
      have hjc : bs ++ [o] ++ joinC (parts.take (0 + 1)) = B0 ++ p := by rw [Hjt.out, if_pos rfl, ← HB0.out]; simp [joinC]
      have Hjc := Lib.hid hjc
      have hjn := congrArg List.length hjc
      simp only [List.length_append, List.length_cons, List.length_nil] at hjn
      have Hle := Lib.hid (show B0.length + p.length ≤ 1000000000000 by omega)
      clear hjc hjn hall hB0
      go_wp2_with (first
       | (go_at_call 68; go_must (refine (Hrun.out _ _ _ HB.out HW.out Hle.out).mono ?_; rintro e w9 ⟨x9, v9, rfl, hb9, hw9⟩); have HB := Lib.hid hb9; have HW := Lib.hid (HW.out.trans hw9); clear hb9 hw9; (try simp only [PU]))
      )
      go_roundw
      case rel => exact ⟨0 + 1, v9, by first | go_num | rfl, by omega, by rw [Hjc.out]; exact HB, HW⟩
      case measure => simp [intOf]; omega
    · have hk0' : 0 < k := by omega
      have hk0i : (0 : Int) < (k : Int) := by omega
      have hjc : bs ++ [o] ++ joinC (parts.take (k + 1)) = B0 ++ [44] ++ p := by rw [Hjt.out, if_neg hk0, ← HB0.out]; simp
      have Hjc := Lib.hid hjc
      have hjn := congrArg List.length hjc
      simp only [List.length_append, List.length_cons, List.length_nil] at hjn
      have Hle := Lib.hid (show (B0 ++ [44]).length + p.length ≤ 1000000000000 by simp only [List.length_append, List.length_cons, List.length_nil]; omega)
      clear hjc hjn hall hB0
      go_wp2_with (first
       | (go_at_call 70; go_must (refine (writeByteI HB.out 44 44 rfl (by omega) (by have := HW.out.keep.size; omega)).mono ?_; rintro e w9 ⟨x9, v9, rfl, hb9, hw9⟩); have HB := Lib.hid hb9; have HW := Lib.hid (HW.out.trans hw9); clear hb9 hw9; (try simp only [PU]))
       | (go_at_call 68; go_must (refine (Hrun.out _ _ _ HB.out HW.out Hle.out).mono ?_; rintro e w9 ⟨x9, v9, rfl, hb9, hw9⟩); have HB := Lib.hid hb9; have HW := Lib.hid (HW.out.trans hw9); clear hb9 hw9; (try simp only [PU]))
      )
      go_roundw
      case rel => exact ⟨k + 1, v9, by go_num, by omega, by rw [Hjc.out]; exact HB, HW⟩
      case measure => simp [intOf]; omega
  · have hk' : k = n := by omega
    subst hk'
    have hjl := joinC_take_len parts k
    rw [Hn.out] at hjl
    have hall : parts.take k = parts := by rw [← Hn.out]; exact List.take_length
    rw [hall] at HB hjl
    have hB0l : (bs ++ [o] ++ joinC parts).length ≤ 20000000000000 := by simp only [List.length_append, List.length_cons, List.length_nil]; omega
    have HBl := Lib.hid hB0l
    clear hall hjl hB0l
    go_wp2_with fail
    refine wp_region_perm [(0, true), (1, true), (2, true), (3, true), (4, true), (5, false)] (fun w' => True) rfl (by kernel_rfl) (by kernel_rfl) (by decide) (fun c a d v w h => by cases d <;> exact h) trivial ?_
    refine pq (some 29) ?_; (try simp only [PU])
    refine pq (some 30) ?_; (try simp only [PU])
    refine pq (some 31) ?_; (try simp only [PU])
    refine pq (some 32) ?_; (try simp only [PU])
    refine pq (some 33) ?_; (try simp only [PU])
    refine perm_e rfl ?_
    go_wp2_with (go_at_call 70; go_must (refine (writeByteI (HB.out.after (Keeps.refl Nob wr).drew) c _ rfl (by have := HBl.out; omega) (by have := HW.out.keep.size; exact Nat.le_trans hbase this)).mono ?_; rintro e w9 ⟨x9, v9, rfl, hb9, hw9⟩))
    have HB := Lib.hid hb9
    have HW := Lib.hid ((HW.out.then (Keeps.refl Nob wr).drew).trans hw9)
    clear hb9 hw9
    (try simp only [PU])
    refine ⟨trivial, ?_⟩
    refine perm_nil ?_
    go_wp2
    go_end0
    exact ⟨_, v9, rfl, HB.out, HW.out⟩
set_option maxHeartbeats 2000000 in
theorem list69 (o c : UInt8) (g base p2 p3 : Nat) (parts : List Bs) (W : World) (v : Value) (bs : Bs) (hb : Bld W g base v bs) (hbase : base ≤ W.heap.size) (hL : bs.length + lens parts + parts.length + 1 ≤ 1000000000000)
  (hp : ∀ k, k < parts.length → ∀ W' v' bs', Bld W' g base v' bs' → Wrote g v W W' v' → bs'.length + (parts.getD k []).length ≤ 1000000000000 → Calls Tryd.prog 69 #[.int .i64 k, .pointer (some ⟨p2, 0, none⟩), .pointer (some ⟨p3, 0, none⟩)] W' (WOut W' g base v' (bs' ++ parts.getD k []))) :
  Calls Tryd.prog 67 #[.pointer (some ⟨g, 0, none⟩), .string ⟨#[o, c]⟩, .int .i64 parts.length, .func (.func 69) #[] #[.pointer (some ⟨p2, 0, none⟩), .pointer (some ⟨p3, 0, none⟩)]] W (WOut W g base v (bs ++ [o] ++ joinC parts ++ [c])) := by
 skip
 have HB := Lib.hid hb
 have HW := Lib.hid (Wrote.refl g v W)
 have HP := Lib.hid hp
 have HL := Lib.hid hL
 obtain ⟨n, hn⟩ : ∃ n, parts.length = n := ⟨_, rfl⟩
 have Hn := Lib.hid hn
 rw [hn] at hL ⊢
 have hoc : (o.toNat : Int) = (o.toNat : Int) := rfl
 clear hb hp hn hoc
 go_enter Tryd.func67, Tryd.ntmps67
 go_wp2_with fail
 refine wp_region_perm [(0, true), (1, true), (2, true), (3, true), (4, true), (5, false)] (fun w' => True) rfl (by kernel_rfl) (by kernel_rfl) (by decide) (fun c a d v w h => by cases d <;> exact h) trivial ?_
 refine pq (some 9) ?_; (try simp only [PU])
 refine pq (some 10) ?_; (try simp only [PU])
 refine pq (some 11) ?_; (try simp only [PU])
 refine pq (some 12) ?_; (try simp only [PU])
 refine pq (some 13) ?_; (try simp only [PU])
 refine perm_e rfl ?_
 go_wp2_with (go_at_call 70; go_must (refine (writeByteI (HB.out.after (Keeps.refl Nob W).drew) o _ rfl (by omega) hbase).mono ?_; rintro e w1 ⟨x1, v1, rfl, hb1, hw1⟩))
 have HB := Lib.hid hb1
 have HW := Lib.hid ((HW.out.then (Keeps.refl Nob W).drew).trans hw1)
 clear hb1 hw1
 (try simp only [PU])
 refine ⟨trivial, ?_⟩
 refine perm_nil ?_
 go_wp2
 go_loopw [16] (fun iv wr => ∃ (k : Nat) (v' : Value), iv = .int .i64 k ∧ k ≤ n ∧ Hid (Bld wr g base v' (bs ++ [o] ++ joinC (parts.take k))) ∧ Hid (Wrote g v W wr v')) (fun iv _ => n - (intOf iv).toNat)
 case atStart => exact ⟨0, v1, rfl, Nat.zero_le _, by simpa [joinC] using HB, HW⟩
 case round =>
  obtain ⟨k, v', rfl, hk, HB, HW⟩ := hrel
  by_cases hlt : k < n
  · have hjt := joinC_take (ps := parts) (k := k) (by rw [Hn.out]; exact hlt)
    have hjl := joinC_take_len parts k
    have hjl2 := joinC_take_len parts (k + 1)
    rw [Hn.out] at hjl hjl2
    obtain ⟨B0, hB0⟩ : ∃ x, bs ++ [o] ++ joinC (parts.take k) = x := ⟨_, rfl⟩
    have hB0l : B0.length ≤ 20000000000000 := by rw [← hB0]; simp only [List.length_append, List.length_cons, List.length_nil]; omega
    rw [hB0] at HB
    have Hjt := Lib.hid hjt
    have HB0 := Lib.hid hB0
    have Hrun := Lib.hid (fun W' v' bs' h1 h2 h3 => HP.out k (by rw [Hn.out]; exact hlt) W' v' bs' h1 h2 h3)
    obtain ⟨p, hpp⟩ : ∃ x, parts.getD k [] = x := ⟨_, rfl⟩
    rw [hpp] at Hrun Hjt
    have hall : bs.length + 1 + (joinC (parts.take (k + 1))).length ≤ 1000000000000 := by omega
    clear hjt hjl hjl2 hpp
    by_cases hk0 : k = 0
    · subst hk0
      have hjc : bs ++ [o] ++ joinC (parts.take (0 + 1)) = B0 ++ p := by rw [Hjt.out, if_pos rfl, ← HB0.out]; simp [joinC]
      have Hjc := Lib.hid hjc
      have hjn := congrArg List.length hjc
      simp only [List.length_append, List.length_cons, List.length_nil] at hjn
      have Hle := Lib.hid (show B0.length + p.length ≤ 1000000000000 by omega)
      clear hjc hjn hall hB0
      go_wp2_with (first
       | (go_at_call 69; go_must (refine (Hrun.out _ _ _ HB.out HW.out Hle.out).mono ?_; rintro e w9 ⟨x9, v9, rfl, hb9, hw9⟩); have HB := Lib.hid hb9; have HW := Lib.hid (HW.out.trans hw9); clear hb9 hw9; (try simp only [PU]))
      )
      go_roundw
      case rel => exact ⟨0 + 1, v9, by first | go_num | rfl, by omega, by rw [Hjc.out]; exact HB, HW⟩
      case measure => simp [intOf]; omega
    · have hk0' : 0 < k := by omega
      have hk0i : (0 : Int) < (k : Int) := by omega
      have hjc : bs ++ [o] ++ joinC (parts.take (k + 1)) = B0 ++ [44] ++ p := by rw [Hjt.out, if_neg hk0, ← HB0.out]; simp
      have Hjc := Lib.hid hjc
      have hjn := congrArg List.length hjc
      simp only [List.length_append, List.length_cons, List.length_nil] at hjn
      have Hle := Lib.hid (show (B0 ++ [44]).length + p.length ≤ 1000000000000 by simp only [List.length_append, List.length_cons, List.length_nil]; omega)
      clear hjc hjn hall hB0
      go_wp2_with (first
       | (go_at_call 70; go_must (refine (writeByteI HB.out 44 44 rfl (by omega) (by have := HW.out.keep.size; omega)).mono ?_; rintro e w9 ⟨x9, v9, rfl, hb9, hw9⟩); have HB := Lib.hid hb9; have HW := Lib.hid (HW.out.trans hw9); clear hb9 hw9; (try simp only [PU]))
       | (go_at_call 69; go_must (refine (Hrun.out _ _ _ HB.out HW.out Hle.out).mono ?_; rintro e w9 ⟨x9, v9, rfl, hb9, hw9⟩); have HB := Lib.hid hb9; have HW := Lib.hid (HW.out.trans hw9); clear hb9 hw9; (try simp only [PU]))
      )
      go_roundw
      case rel => exact ⟨k + 1, v9, by go_num, by omega, by rw [Hjc.out]; exact HB, HW⟩
      case measure => simp [intOf]; omega
  · have hk' : k = n := by omega
    subst hk'
    have hjl := joinC_take_len parts k
    rw [Hn.out] at hjl
    have hall : parts.take k = parts := by rw [← Hn.out]; exact List.take_length
    rw [hall] at HB hjl
    have hB0l : (bs ++ [o] ++ joinC parts).length ≤ 20000000000000 := by simp only [List.length_append, List.length_cons, List.length_nil]; omega
    have HBl := Lib.hid hB0l
    clear hall hjl hB0l
    go_wp2_with fail
    refine wp_region_perm [(0, true), (1, true), (2, true), (3, true), (4, true), (5, false)] (fun w' => True) rfl (by kernel_rfl) (by kernel_rfl) (by decide) (fun c a d v w h => by cases d <;> exact h) trivial ?_
    refine pq (some 29) ?_; (try simp only [PU])
    refine pq (some 30) ?_; (try simp only [PU])
    refine pq (some 31) ?_; (try simp only [PU])
    refine pq (some 32) ?_; (try simp only [PU])
    refine pq (some 33) ?_; (try simp only [PU])
    refine perm_e rfl ?_
    go_wp2_with (go_at_call 70; go_must (refine (writeByteI (HB.out.after (Keeps.refl Nob wr).drew) c _ rfl (by have := HBl.out; omega) (by have := HW.out.keep.size; exact Nat.le_trans hbase this)).mono ?_; rintro e w9 ⟨x9, v9, rfl, hb9, hw9⟩))
    have HB := Lib.hid hb9
    have HW := Lib.hid ((HW.out.then (Keeps.refl Nob wr).drew).trans hw9)
    clear hb9 hw9
    (try simp only [PU])
    refine ⟨trivial, ?_⟩
    refine perm_nil ?_
    go_wp2
    go_end0
    exact ⟨_, v9, rfl, HB.out, HW.out⟩
theorem Wrote.from {g base : Nat} {v v' : Value} {bs : Bs} {w w' : World} (h : Wrote g v w w' v') (hb : Bld w g base v bs) (hg : base ≤ g) : Keeps (fun k => base ≤ k) w w' :=
 h.keep.mono (fun k _ hm => by
  rcases hm with e | e
  · rw [e]; exact hg
  · exact (hb.own.lt k e.symm).1)
theorem quoteB_ge (s : Bs) : s.length ≤ (quoteB s).length := by
 have : ∀ l : Bs, l.length ≤ (l.flatMap esc).length := fun l => by
  induction l with
  | nil => simp
  | cons a l ih =>
    have h1 : 1 ≤ (esc a).length := by unfold esc; repeat' split
                                       all_goals simp
    simp only [List.flatMap_cons, List.length_append, List.length_cons]; omega
 have := this s
 unfold quoteB
 simp only [List.length_append, List.length_cons, List.length_nil]
 omega
theorem Wrote.pre {g : Nat} {v v1 : Value} {w w1 w2 : World} (k : Keeps Nob w w1) (h : Wrote g v w1 w2 v1) : Wrote g v w w2 v1 :=
 ⟨(k.mono (fun _ _ h => h.elim)).trans h.keep (fun _ _ h => h), h.row.imp id (fun ⟨b, h1, h2⟩ => ⟨b, h1, Nat.le_trans k.size h2⟩)⟩
theorem Wrote.block {g p : Nat} {v v' : Value} {w w' : World} (h : Wrote g v w w' v') {x : Obj} (hp : w.heap[p]? = some x) (h1 : p ≠ g) (h2 : some p ≠ v.ownBlock) : w'.heap[p]? = some x :=
 h.keep.blk hp (fun hm => hm.elim h1 h2)
set_option maxHeartbeats 2000000 in
theorem part68 {g base p2 p3 b o k len c : Nat} {e0 e1 e2 e3 e4 x0 x1 x2 x3 x4 x5 : Value} {W : World} {v : Value} {bs bs' : Bs} (hk : k < len) (h6 : Six W b (o + k * 6) x0 x1 x2 x3 x4 x5) (hB : Bld W g base v bs)
  (hbb : b < base) (hg : base ≤ g) (h2 : W.heap[p2]? = some (.cells #[.pointer (some ⟨g, 0, none⟩)] 67 (0, 0))) (h3 : W.heap[p3]? = some (.cells #[e0, e1, e2, e3, e4, .slice (some ⟨b, o, none⟩) len c] 25 (0, 0)))
  (hn : (p2 ≠ g ∧ some p2 ≠ v.ownBlock) ∧ p3 ≠ g ∧ some p3 ≠ v.ownBlock)
  (hrun : ∀ W', Keeps Nob W W' → Calls Tryd.prog 39 #[.pointer (some ⟨g, 0, none⟩), .agg #[x0, x1, x2, x3, x4, x5]] W' (WOut W' g base v bs')) :
  Calls Tryd.prog 68 #[.int .i64 k, .pointer (some ⟨p2, 0, none⟩), .pointer (some ⟨p3, 0, none⟩)] W (WOut W g base v bs') := by
 obtain ⟨⟨a0, a1, a2⟩, a3, a4, a5⟩ := h6
 have c2 := (blk_cell h2 0).trans rfl
 have c3 := (blk_cell h3 5).trans rfl
 have Hrun := Lib.hid hrun
 have HB := Lib.hid hB
 have Hn := Lib.hid hn
 have Hbb := Lib.hid (And.intro hbb hg)
 clear h2 h3 hrun hB hn hbb hg
 go_enter Tryd.func68, Tryd.ntmps68
 go_wp2_with fail
 refine wp_region_perm [(0, true), (1, true), (2, true), (3, true), (4, true), (5, true), (6, false)] (fun w' => (w'.cell? ⟨p2, 0, none⟩ = some (.pointer (some ⟨g, 0, none⟩)) ∧ w'.cell? ⟨p3, 5, none⟩ = some (.slice (some ⟨b, o, none⟩) len c)) ∧ w'.cell? ⟨b, o + k * 6, none⟩ = some x0 ∧ w'.cell? ⟨b, o + k * 6 + 1, none⟩ = some x1 ∧ w'.cell? ⟨b, o + k * 6 + 2, none⟩ = some x2 ∧ w'.cell? ⟨b, o + k * 6 + 3, none⟩ = some x3 ∧ w'.cell? ⟨b, o + k * 6 + 4, none⟩ = some x4 ∧ w'.cell? ⟨b, o + k * 6 + 5, none⟩ = some x5) rfl (by kernel_rfl) (by kernel_rfl) (by decide) (fun c a d v w h => by cases d <;> exact h) ⟨⟨c2, c3⟩, a0, a1, a2, a3, a4, a5⟩ ?_
 refine pq (some 4) ?_; (try simp only [PU])
 refine pq (some 5) ?_; (try simp only [PU])
 refine pq (some 6) ?_; (try simp only [PU])
 refine pq (some 7) ?_; (try simp only [PU])
 refine pq (some 8) ?_; (try simp only [PU])
 refine pq (some 9) ?_; (try simp only [PU])
 refine perm_e rfl ?_
 go_wp2_with (go_at_call 39; go_must (refine (Hrun.out _ (Keeps.refl Nob W).drew).mono ?_; rintro e w1 ⟨x9, v1, rfl, hb1, hw1⟩))
 have HW := Lib.hid hw1
 have HB1 := Lib.hid hb1
 clear hb1 hw1
 (try simp only [PU])
 have m2 : ¬ (p2 = g ∨ some p2 = v.ownBlock) := fun h => h.elim Hn.out.1.1 Hn.out.1.2
 have m3 : ¬ (p3 = g ∨ some p3 = v.ownBlock) := fun h => h.elim Hn.out.2.1 Hn.out.2.2
 have mb : ¬ (b = g ∨ some b = v.ownBlock) := fun h => h.elim (fun e => by have := Hbb.out; omega) (fun e => by have := (HB.out.own.lt b e.symm).1; have := Hbb.out; omega)
 refine ⟨⟨⟨HW.out.keep.cell (w := W.drew) c2 m2, HW.out.keep.cell (w := W.drew) c3 m3⟩, HW.out.keep.cell (w := W.drew) a0 mb, HW.out.keep.cell (w := W.drew) a1 mb, HW.out.keep.cell (w := W.drew) a2 mb, HW.out.keep.cell (w := W.drew) a3 mb, HW.out.keep.cell (w := W.drew) a4 mb, HW.out.keep.cell (w := W.drew) a5 mb⟩, ?_⟩
 refine perm_nil ?_
 go_wp2
 go_end0
 exact ⟨_, v1, rfl, HB1.out, HW.out.pre (Keeps.refl Nob W).drew⟩
set_option maxHeartbeats 2000000 in
theorem part69 {g base p2 p3 kb ko b o k klen kc len c : Nat} {e0 e1 e2 e3 x0 x1 x2 x3 x4 x5 : Value} {key : ByteArray} {W : World} {v : Value} {bs ts : Bs} (hkk : k < klen) (hk : k < len) (hkey : W.cell? ⟨kb, ko + k, none⟩ = some (.string key)) (h6 : Six W b (o + k * 6) x0 x1 x2 x3 x4 x5) (hB : Bld W g base v bs)
  (hkb : kb < base) (hbb : b < base) (hg : base ≤ g) (hbase : base ≤ W.heap.size) (h2 : W.heap[p2]? = some (.cells #[.pointer (some ⟨g, 0, none⟩)] 67 (0, 0))) (h3 : W.heap[p3]? = some (.cells #[e0, e1, e2, e3, .slice (some ⟨kb, ko, none⟩) klen kc, .slice (some ⟨b, o, none⟩) len c] 25 (0, 0)))
  (hn : (p2 ≠ g ∧ some p2 ≠ v.ownBlock) ∧ p3 ≠ g ∧ some p3 ≠ v.ownBlock) (hl : bs.length + (quoteB (bl key)).length ≤ 1000000000000)
  (hrun : ∀ W' v', Bld W' g base v' (bs ++ quoteB (bl key) ++ [58]) → Keeps (fun k => base ≤ k) W W' → Calls Tryd.prog 39 #[.pointer (some ⟨g, 0, none⟩), .agg #[x0, x1, x2, x3, x4, x5]] W' (WOut W' g base v' (bs ++ quoteB (bl key) ++ [58] ++ ts))) :
  Calls Tryd.prog 69 #[.int .i64 k, .pointer (some ⟨p2, 0, none⟩), .pointer (some ⟨p3, 0, none⟩)] W (WOut W g base v (bs ++ (quoteB (bl key) ++ [58] ++ ts))) := by
 have hql : (bl key).length ≤ 1000000000000 ∧ bs.length ≤ 1000000000000 ∧ (bs ++ quoteB (bl key)).length ≤ 1000000000000 := by
  have : (bl key).length ≤ (quoteB (bl key)).length := quoteB_ge _
  rw [List.length_append]
  omega
 have Hql := Lib.hid hql
 have Hpr := Lib.hid (And.intro h2 h3)
 have H6 := Lib.hid h6
 have c2 := (blk_cell h2 0).trans rfl
 have c3 := (blk_cell h3 4).trans rfl
 have Hrun := Lib.hid hrun
 have HB := Lib.hid hB
 have Hn := Lib.hid hn
 have Hbb := Lib.hid (show b < base ∧ kb < base ∧ base ≤ g ∧ base ≤ W.heap.size from ⟨hbb, hkb, hg, hbase⟩)
 have hassoc : bs ++ (quoteB (bl key) ++ [58] ++ ts) = bs ++ quoteB (bl key) ++ [58] ++ ts := by simp
 rw [hassoc]
 clear h2 h3 hrun hB hn hbb hkb hg hbase hl hql h6 hassoc
 go_enter Tryd.func69, Tryd.ntmps69
 go_wp2_with fail
 refine wp_region_perm [(0, true), (1, true), (2, true), (3, true), (4, true), (5, true), (6, false)] (fun w' => (w'.cell? ⟨p2, 0, none⟩ = some (.pointer (some ⟨g, 0, none⟩)) ∧ w'.cell? ⟨p3, 4, none⟩ = some (.slice (some ⟨kb, ko, none⟩) klen kc)) ∧ w'.cell? ⟨kb, ko + k, none⟩ = some (.string key)) rfl (by kernel_rfl) (by kernel_rfl) (by decide) (fun c a d v w h => by cases d <;> exact h) ⟨⟨c2, c3⟩, hkey⟩ ?_
 refine pq (some 4) ?_; (try simp only [PU])
 refine pq (some 5) ?_; (try simp only [PU])
 refine pq (some 6) ?_; (try simp only [PU])
 refine pq (some 7) ?_; (try simp only [PU])
 refine pq (some 8) ?_; (try simp only [PU])
 refine pq (some 9) ?_; (try simp only [PU])
 refine perm_e rfl ?_
 go_wp2_with (go_at_call 66; go_must (refine (writeText (HB.out.after (Keeps.refl Nob W).drew) key Hql.out.2.1 Hql.out.1 Hbb.out.2.2.2).mono ?_; rintro e w1 ⟨x9, v1, rfl, hb1, hw1⟩))
 have HW := Lib.hid (hw1.pre (Keeps.refl Nob W).drew)
 have HB1 := Lib.hid hb1
 clear hb1 hw1
 (try simp only [PU])
 have m2 : ¬ (p2 = g ∨ some p2 = v.ownBlock) := fun h => h.elim Hn.out.1.1 Hn.out.1.2
 have m3 : ¬ (p3 = g ∨ some p3 = v.ownBlock) := fun h => h.elim Hn.out.2.1 Hn.out.2.2
 have mb : ¬ (kb = g ∨ some kb = v.ownBlock) := fun h => h.elim (fun e => by have := Hbb.out; omega) (fun e => by have := (HB.out.own.lt kb e.symm).1; have := Hbb.out; omega)
 refine ⟨⟨⟨HW.out.keep.cell c2 m2, HW.out.keep.cell c3 m3⟩, HW.out.keep.cell hkey mb⟩, ?_⟩
 refine perm_nil ?_
 have Hp1 := Lib.hid (And.intro (HW.out.block Hpr.out.1 Hn.out.1.1 Hn.out.1.2) (HW.out.block Hpr.out.2 Hn.out.2.1 Hn.out.2.2))
 have Hs1 := Lib.hid (H6.out.keep (HW.out.from HB.out Hbb.out.2.2.1) (by have := Hbb.out; omega))
 have HK1 := Lib.hid (HW.out.from HB.out Hbb.out.2.2.1)
 clear c2 c3 hkey m2 m3 mb
 have c2 := (blk_cell Hp1.out.1 0).trans rfl
 have hlt := blk_lt Hpr.out.1
 have hlt3 := blk_lt Hpr.out.2
 have nb : ∀ k, k < W.heap.size → some k ≠ v.ownBlock → some k ≠ v1.ownBlock := fun k hk h1 e => by
  rcases HW.out.row with hr | ⟨b, hb, hl⟩
  · exact h1 (e.trans hr)
  · rw [hb] at e; injection e with e; omega
 have Hn1 := Lib.hid (show (some p2 ≠ v1.ownBlock) ∧ some p3 ≠ v1.ownBlock from ⟨nb p2 hlt Hn.out.1.2, nb p3 hlt3 Hn.out.2.2⟩)
 have Hsz := Lib.hid (And.intro hlt hlt3)
 clear nb hlt hlt3
 go_wp2_with (first
  | (go_at_call 70; go_must (refine (writeByteI HB1.out 58 58 rfl (by have := Hql.out; omega) (by have := HK1.out.size; have := Hbb.out; omega)).mono ?_; rintro e w2 ⟨x9, v2, rfl, hb2, hw2⟩); have HB2 := Lib.hid hb2; have HW2 := Lib.hid hw2; clear hb2 hw2; (try simp only [PU]))
  | skip; fail)
 have Hp2 := Lib.hid (And.intro (HW2.out.block Hp1.out.1 Hn.out.1.1 Hn1.out.1) (HW2.out.block Hp1.out.2 Hn.out.2.1 Hn1.out.2))
 have Hk2 := Lib.hid (HW2.out.from HB1.out Hbb.out.2.2.1)
 have HK2 := Lib.hid (HK1.out.trans Hk2.out (fun _ _ h => h))
 clear c2
 obtain ⟨⟨a0, a1, a2⟩, a3, a4, a5⟩ := Hs1.out.keep Hk2.out (by have := Hbb.out; omega)
 have c2 := (blk_cell Hp2.out.1 0).trans rfl
 have c3 := (blk_cell Hp2.out.2 5).trans rfl
 have nb : ∀ k, k < W.heap.size → some k ≠ v1.ownBlock → some k ≠ v2.ownBlock := fun k hk h1 e => by
  rcases HW2.out.row with hr | ⟨b, hb, hl⟩
  · exact h1 (e.trans hr)
  · rw [hb] at e; injection e with e; have := HK1.out.size; omega
 have Hn2 := Lib.hid (show (some p2 ≠ v2.ownBlock) ∧ some p3 ≠ v2.ownBlock from ⟨nb p2 Hsz.out.1 Hn1.out.1, nb p3 Hsz.out.2 Hn1.out.2⟩)
 clear nb
 refine wp_region_perm [(0, true), (1, true), (2, true), (3, true), (4, true), (5, true), (6, false)] (fun w' => (w'.cell? ⟨p2, 0, none⟩ = some (.pointer (some ⟨g, 0, none⟩)) ∧ w'.cell? ⟨p3, 5, none⟩ = some (.slice (some ⟨b, o, none⟩) len c)) ∧ w'.cell? ⟨b, o + k * 6, none⟩ = some x0 ∧ w'.cell? ⟨b, o + k * 6 + 1, none⟩ = some x1 ∧ w'.cell? ⟨b, o + k * 6 + 2, none⟩ = some x2 ∧ w'.cell? ⟨b, o + k * 6 + 3, none⟩ = some x3 ∧ w'.cell? ⟨b, o + k * 6 + 4, none⟩ = some x4 ∧ w'.cell? ⟨b, o + k * 6 + 5, none⟩ = some x5) rfl (by kernel_rfl) (by kernel_rfl) (by decide) (fun c a d v w h => by cases d <;> exact h) ⟨⟨c2, c3⟩, a0, a1, a2, a3, a4, a5⟩ ?_
 refine pq (some 15) ?_; (try simp only [PU])
 refine pq (some 16) ?_; (try simp only [PU])
 refine pq (some 17) ?_; (try simp only [PU])
 refine pq (some 18) ?_; (try simp only [PU])
 refine pq (some 19) ?_; (try simp only [PU])
 refine pq (some 20) ?_; (try simp only [PU])
 refine perm_e rfl ?_
 go_wp2_with (go_at_call 39; go_must (refine (Hrun.out _ _ (HB2.out.after (Keeps.refl Nob w2).drew) (HK2.out.then (Keeps.refl Nob w2).drew)).mono ?_; rintro e w3 ⟨x9, v3, rfl, hb3, hw3⟩))
 have HW3 := Lib.hid hw3
 have HB3 := Lib.hid hb3
 clear hb3 hw3
 (try simp only [PU])
 have m2 : ¬ (p2 = g ∨ some p2 = v2.ownBlock) := fun h => h.elim Hn.out.1.1 Hn2.out.1
 have m3 : ¬ (p3 = g ∨ some p3 = v2.ownBlock) := fun h => h.elim Hn.out.2.1 Hn2.out.2
 have mb : ¬ (b = g ∨ some b = v2.ownBlock) := fun h => h.elim (fun e => by have := Hbb.out; omega) (fun e => by have := (HB2.out.own.lt b e.symm).1; have := Hbb.out; omega)
 refine ⟨⟨⟨HW3.out.keep.cell (w := w2.drew) c2 m2, HW3.out.keep.cell (w := w2.drew) c3 m3⟩, HW3.out.keep.cell (w := w2.drew) a0 mb, HW3.out.keep.cell (w := w2.drew) a1 mb, HW3.out.keep.cell (w := w2.drew) a2 mb, HW3.out.keep.cell (w := w2.drew) a3 mb, HW3.out.keep.cell (w := w2.drew) a4 mb, HW3.out.keep.cell (w := w2.drew) a5 mb⟩, ?_⟩
 refine perm_nil ?_
 go_wp2
 go_end0
 exact ⟨_, v3, rfl, HB3.out, HW.out.trans (HW2.out.trans (HW3.out.pre (Keeps.refl Nob w2).drew))⟩
end Go.Proofs.WV

namespace Go.Proofs.WV
open Go.RowKit Go.Proofs.KL Go.Proofs.WM
set_option maxRecDepth 100000
set_option linter.unusedSimpArgs false
set_option linter.unusedVariables false

theorem joinC_len_eq (l : List Bs) : lens l + l.length + 1 ≤ (joinC l).length + 2 := by
 cases l with
 | nil => simp [lens, joinC]
 | cons x r =>
   have : ∀ r : List Bs, (r.flatMap (44 :: ·)).length = lens r + r.length := fun r => by
    induction r with
    | nil => simp [lens]
    | cons a r ih => simp only [List.flatMap_cons, List.length_append, List.length_cons, ih, lens, List.map_cons, List.sum_cons]; omega
   simp only [joinC, List.length_append, this, lens, List.map_cons, List.sum_cons, List.length_cons]
   omega
def Tab (w : World) (base : Nat) : Prop := ∃ g, Tryd.prog.globalNamed "internal/strconv.uint64pow10" = some g ∧ g < base ∧ Lib.TabIs Tryd.prog w "internal/strconv.uint64pow10" .u64 Lib.pow10Tab
theorem Tab.keep {w w' : World} {base : Nat} (h : Tab w base) (hk : Keeps (fun k => base ≤ k) w w') : Tab w' base := by
 obtain ⟨g, hg, hb, ht⟩ := h
 refine ⟨g, hg, hb, ?_⟩
 unfold Lib.TabIs World.var? at ht ⊢
 rw [hg] at ht ⊢
 simp only [Option.bind_some] at ht ⊢
 have hlt : g < w.heap.size := by
  rcases Nat.lt_or_ge g w.heap.size with h | h
  · exact h
  · rw [Array.getElem?_eq_none h] at ht; cases ht
 rw [hk.block g hlt (by omega)]
 exact ht
theorem _root_.Go.Proofs.KL.Keeps.any {M : Nat → Prop} {w w' : World} (h : Keeps Nob w w') : Keeps M w w' := h.mono (fun _ _ h => h.elim)
theorem grew (w : World) (k : Nat) (os : Array Obj) : Keeps Nob w (Go.Sort.grow (w.drewN k) os) :=
 ⟨rfl, rfl, rfl, by simp [Go.Sort.grow, World.drewN], fun i hi _ => by simp [Go.Sort.grow, World.drewN, Array.getElem?_append, hi]⟩
theorem itoa42 {w : World} {base : Nat} (h : Tab w base) (n : Int) (h0 : -9223372036854775808 ≤ n) (h1 : n ≤ 9223372036854775807) : Calls Tryd.prog 42 #[.int .i64 n, .int .i64 10] w fun e w' => e = .returned (.string ⟨(Lib.itoa n).toArray⟩) ∧ Keeps Nob w w' := by
 obtain ⟨g, _, _, ht⟩ := h
 refine (Tryd.strconv_FormatInt_10 n h0 h1 w ht).mono ?_
 rintro e w' ⟨rfl, k, os, rfl⟩
 exact ⟨rfl, grew _ _ _⟩
set_option maxHeartbeats 4000000 in
theorem value39 {w : World} {X : Nat → Prop} {v0 : Value} {j : J} (h : JX w X v0 j) : ∀ (W : World) (g base : Nat) (v : Value) (bs : Bs), Keeps (fun k => base ≤ k) w W → (∀ b, X b → b < base) → Tab W base → Bld W g base v bs → base ≤ g → base ≤ W.heap.size → formedJ j = true →
  bs.length + (textJ j).length ≤ 1000000000000 → Calls Tryd.prog 39 #[.pointer (some ⟨g, 0, none⟩), v0] W (WOut W g base v (bs ++ textJ j)) := by
 induction h with
 | mk k b n t ks vs kv A c u h1 hc hA hv ih =>
   intro W g base v bs hw hX ht hB hg hbase hf hl
   unfold formedJ at hf
   simp only [fineJ, Bool.and_eq_true, Bool.or_eq_true, decide_eq_true_eq, Bool.not_eq_true', decide_eq_false_iff_not] at hf
   obtain ⟨⟨⟨⟨⟨⟨⟨⟨⟨⟨hk1, hk6⟩, -⟩, -⟩, -⟩, -⟩, -⟩, hr⟩, hlen⟩, -⟩, hfl⟩ := hf
   obtain ⟨kA, kc, rfl, hkc, hkx⟩ := h1
   have HB := Lib.hid hB
   have HT := Lib.hid ht
   have Hw := Lib.hid hw
   have HX := Lib.hid hX
   have Hg := Lib.hid (And.intro hg hbase)
   have HA := Lib.hid hA
   have Hkx := Lib.hid hkx
   have IH := Lib.hid ih
   have Hf := Lib.hid (And.intro hfl hlen)
   have Hr := Lib.hid hr
   have Hlt := Lib.hid hB.lt
   have Hol := Lib.hid hB.own.lt
   clear hw hX ht hB hg hbase hA hkx ih hfl hlen hr hv
   have hcase : k = 1 ∨ k = 2 ∨ k = 3 ∨ k = 4 ∨ k = 5 ∨ k = 6 := by omega
   rcases hcase with rfl | rfl | rfl | rfl | rfl | rfl
   · have htx : textJ (.mk 1 b n t ks vs) = bl ⟨#[110, 117, 108, 108]⟩ := by unfold textJ; rfl
     rw [htx] at hl ⊢
     have Hl := Lib.hid hl
     clear htx hl hk1 hk6
     go_enter Tryd.func39, Tryd.ntmps39
     go_wp2_with (first
      | ((with_reducible refine at_dst (N := 2) rfl ?_); go_must (refine ev_box (cs := #[.pointer (some ⟨g, 0, none⟩)]) rfl rfl rfl ?_; intro p2 w1 hg1 hl1 hb1 hk1)
         have Hb1 := Lib.hid hb1
         have HK1 := Lib.hid hk1
         clear hb1 hk1
         (try simp only [PU]))
      | ((with_reducible refine at_dst (N := 3) rfl ?_); go_must (refine ev_box (cs := #[.int .i64 1, .bool b, .int .i64 n, .string t, .slice kA ks.length kc, .slice A vs.length c]) rfl rfl rfl ?_; intro p3 w2 hg2 hl2 hb2 hk2)
         have q2 := (blk_cell (hk2.blk Hb1.out id) 0).trans rfl
         have q30 := (blk_cell hb2 0).trans rfl
         have q31 := (blk_cell hb2 1).trans rfl
         have q32 := (blk_cell hb2 2).trans rfl
         have q33 := (blk_cell hb2 3).trans rfl
         have q34 := (blk_cell hb2 4).trans rfl
         have q35 := (blk_cell hb2 5).trans rfl
         have Hb2 := Lib.hid (And.intro (hk2.blk Hb1.out id) hb2)
         have HK2 := Lib.hid (HK1.out.trans hk2 (fun _ _ h => h))
         have HB2 := Lib.hid (HB.out.after HK2.out)
         have Hle := Lib.hid (show W.heap.size ≤ p2 ∧ W.heap.size ≤ p3 ∧ p2 < w2.heap.size ∧ p3 < w2.heap.size from ⟨by have := HK1.out.size; omega, by have := HK1.out.size; omega, blk_lt (hk2.blk Hb1.out id), blk_lt hb2⟩)
         clear hb2 hk2 Hb1 HK1 hg1 hl1 hg2 hl2
         (try simp only [PU]))
      | (go_at_call 64; go_must (refine (writeString HB2.out ⟨#[110, 117, 108, 108]⟩ (by have := Hl.out; omega) (by decide) (by have := HK2.out.size; have := Hg.out; omega)).mono ?_; rintro e w9 ⟨x9, v9, rfl, hb9, hw9⟩); have HB := Lib.hid hb9; have HW := Lib.hid (hw9.pre HK2.out); clear hb9 hw9; (try simp only [PU]))
     )
     go_end0
     exact ⟨_, v9, rfl, HB.out, HW.out⟩
   · have htx : textJ (.mk 2 b n t ks vs) = bl ⟨(Lib.formatBool b).toArray⟩ := by unfold textJ; cases b <;> rfl
     have h5 : (bl ⟨(Lib.formatBool b).toArray⟩).length ≤ 1000000000000 := by cases b <;> decide
     rw [htx] at hl ⊢
     have Hl := Lib.hid (And.intro hl h5)
     clear htx hl hk1 hk6 h5
     go_enter Tryd.func39, Tryd.ntmps39
     go_wp2_with (first
      | ((with_reducible refine at_dst (N := 2) rfl ?_); go_must (refine ev_box (cs := #[.pointer (some ⟨g, 0, none⟩)]) rfl rfl rfl ?_; intro p2 w1 hg1 hl1 hb1 hk1)
         have Hb1 := Lib.hid hb1
         have HK1 := Lib.hid hk1
         clear hb1 hk1
         (try simp only [PU]))
      | ((with_reducible refine at_dst (N := 3) rfl ?_); go_must (refine ev_box (cs := #[.int .i64 2, .bool b, .int .i64 n, .string t, .slice kA ks.length kc, .slice A vs.length c]) rfl rfl rfl ?_; intro p3 w2 hg2 hl2 hb2 hk2)
         have q2 := (blk_cell (hk2.blk Hb1.out id) 0).trans rfl
         have q30 := (blk_cell hb2 0).trans rfl
         have q31 := (blk_cell hb2 1).trans rfl
         have q32 := (blk_cell hb2 2).trans rfl
         have q33 := (blk_cell hb2 3).trans rfl
         have q34 := (blk_cell hb2 4).trans rfl
         have q35 := (blk_cell hb2 5).trans rfl
         have Hb2 := Lib.hid (And.intro (hk2.blk Hb1.out id) hb2)
         have HK2 := Lib.hid (HK1.out.trans hk2 (fun _ _ h => h))
         have HB2 := Lib.hid (HB.out.after HK2.out)
         have Hle := Lib.hid (show W.heap.size ≤ p2 ∧ W.heap.size ≤ p3 ∧ p2 < w2.heap.size ∧ p3 < w2.heap.size from ⟨by have := HK1.out.size; omega, by have := HK1.out.size; omega, blk_lt (hk2.blk Hb1.out id), blk_lt hb2⟩)
         clear hb2 hk2 Hb1 HK1 hg1 hl1 hg2 hl2
         (try simp only [PU]))
     )
     refine wp_region_perm [(0, true), (1, true), (2, true), (3, true), (4, true), (5, false), (6, false)] (fun w' => w'.cell? ⟨p2, 0, none⟩ = some (.pointer (some ⟨g, 0, none⟩)) ∧ w'.cell? ⟨p3, 1, none⟩ = some (.bool b)) rfl (by kernel_rfl) (by kernel_rfl) (by decide) (fun c a d v w h => by cases d <;> exact h) ⟨q2, q31⟩ ?_
     refine pq (some 14) ?_; (try simp only [PU])
     refine pq (some 15) ?_; (try simp only [PU])
     refine pq (some 16) ?_; (try simp only [PU])
     refine pq (some 17) ?_; (try simp only [PU])
     refine pq (some 18) ?_; (try simp only [PU])
     refine perm_e rfl ?_
     go_wp2_with (go_at_call 65; go_must (refine (Tryd.strconv_FormatBool b _).mono ?_; rintro e w3 ⟨rfl, rfl⟩))
     (try simp only [PU])
     refine ⟨⟨q2, q31⟩, ?_⟩
     refine perm_e rfl ?_
     go_wp2_with (go_at_call 64; go_must (refine (writeString (HB2.out.after (Keeps.refl Nob w2).drew) ⟨(Lib.formatBool b).toArray⟩ (by have := Hl.out; omega) Hl.out.2 (by show base ≤ w2.heap.size; have := HK2.out.size; have := Hg.out; omega)).mono ?_; rintro e w9 ⟨x9, v9, rfl, hb9, hw9⟩))
     have HW9 := Lib.hid (hw9.pre (Keeps.refl Nob w2).drew)
     have HB := Lib.hid hb9
     have HW := Lib.hid (HW9.out.pre HK2.out)
     clear hb9 hw9
     (try simp only [PU])
     have m2 : ¬ (p2 = g ∨ some p2 = v.ownBlock) := fun h => h.elim (fun e => by have := Hlt.out; have := Hle.out; omega) (fun e => by have := (Hol.out p2 e.symm).2; have := Hle.out; omega)
     have m3 : ¬ (p3 = g ∨ some p3 = v.ownBlock) := fun h => h.elim (fun e => by have := Hlt.out; have := Hle.out; omega) (fun e => by have := (Hol.out p3 e.symm).2; have := Hle.out; omega)
     refine ⟨⟨HW9.out.keep.cell q2 m2, HW9.out.keep.cell q31 m3⟩, ?_⟩
     refine perm_nil ?_
     go_wp2
     go_end0
     exact ⟨_, v9, rfl, HB.out, HW.out⟩
   · have htx : textJ (.mk 3 b n t ks vs) = bl ⟨(Lib.itoa n).toArray⟩ := by unfold textJ; rfl
     have h5 : (bl ⟨(Lib.itoa n).toArray⟩).length ≤ 1000000000000 := by have := itoa_len Hr.out; simp only [bl]; omega
     rw [htx] at hl ⊢
     have Hl := Lib.hid (And.intro hl h5)
     clear htx hl hk1 hk6 h5
     go_enter Tryd.func39, Tryd.ntmps39
     go_wp2_with (first
      | ((with_reducible refine at_dst (N := 2) rfl ?_); go_must (refine ev_box (cs := #[.pointer (some ⟨g, 0, none⟩)]) rfl rfl rfl ?_; intro p2 w1 hg1 hl1 hb1 hk1)
         have Hb1 := Lib.hid hb1
         have HK1 := Lib.hid hk1
         clear hb1 hk1
         (try simp only [PU]))
      | ((with_reducible refine at_dst (N := 3) rfl ?_); go_must (refine ev_box (cs := #[.int .i64 3, .bool b, .int .i64 n, .string t, .slice kA ks.length kc, .slice A vs.length c]) rfl rfl rfl ?_; intro p3 w2 hg2 hl2 hb2 hk2)
         have q2 := (blk_cell (hk2.blk Hb1.out id) 0).trans rfl
         have q30 := (blk_cell hb2 0).trans rfl
         have q31 := (blk_cell hb2 1).trans rfl
         have q32 := (blk_cell hb2 2).trans rfl
         have q33 := (blk_cell hb2 3).trans rfl
         have q34 := (blk_cell hb2 4).trans rfl
         have q35 := (blk_cell hb2 5).trans rfl
         have Hb2 := Lib.hid (And.intro (hk2.blk Hb1.out id) hb2)
         have HK2 := Lib.hid (HK1.out.trans hk2 (fun _ _ h => h))
         have HB2 := Lib.hid (HB.out.after HK2.out)
         have Hle := Lib.hid (show W.heap.size ≤ p2 ∧ W.heap.size ≤ p3 ∧ p2 < w2.heap.size ∧ p3 < w2.heap.size from ⟨by have := HK1.out.size; omega, by have := HK1.out.size; omega, blk_lt (hk2.blk Hb1.out id), blk_lt hb2⟩)
         clear hb2 hk2 Hb1 HK1 hg1 hl1 hg2 hl2
         (try simp only [PU]))
     )
     refine wp_region_perm [(0, true), (1, true), (2, true), (3, true), (4, true), (5, false), (6, false)] (fun w' => w'.cell? ⟨p2, 0, none⟩ = some (.pointer (some ⟨g, 0, none⟩)) ∧ w'.cell? ⟨p3, 2, none⟩ = some (.int .i64 n)) rfl (by kernel_rfl) (by kernel_rfl) (by decide) (fun c a d v w h => by cases d <;> exact h) ⟨q2, q32⟩ ?_
     refine pq (some 23) ?_; (try simp only [PU])
     refine pq (some 24) ?_; (try simp only [PU])
     refine pq (some 25) ?_; (try simp only [PU])
     refine pq (some 26) ?_; (try simp only [PU])
     refine pq (some 27) ?_; (try simp only [PU])
     refine perm_e rfl ?_
     go_wp2_with (go_at_call 42; go_must (refine (itoa42 (HT.out.keep (HK2.out.then (Keeps.refl Nob w2).drew).any) n (by have := Hr.out; omega) (by have := Hr.out; omega)).mono ?_; rintro e w3 ⟨rfl, hk3⟩))
     have HK3 := Lib.hid hk3
     clear hk3
     (try simp only [PU])
     refine ⟨⟨HK3.out.cell (w := w2.drew) q2 id, HK3.out.cell (w := w2.drew) q32 id⟩, ?_⟩
     refine perm_e rfl ?_
     go_wp2_with (go_at_call 64; go_must (refine (writeString (HB2.out.after ((Keeps.refl Nob w2).drew.trans HK3.out (fun _ _ h => h))) ⟨(Lib.itoa n).toArray⟩ (by have := Hl.out; omega) Hl.out.2 (by have h3 : w2.heap.size ≤ w3.heap.size := HK3.out.size; have := HK2.out.size; have := Hg.out; omega)).mono ?_; rintro e w9 ⟨x9, v9, rfl, hb9, hw9⟩))
     have HW9 := Lib.hid (hw9.pre ((Keeps.refl Nob w2).drew.trans HK3.out (fun _ _ h => h)))
     have HB := Lib.hid hb9
     have HW := Lib.hid (HW9.out.pre HK2.out)
     clear hb9 hw9
     (try simp only [PU])
     have m2 : ¬ (p2 = g ∨ some p2 = v.ownBlock) := fun h => h.elim (fun e => by have := Hlt.out; have := Hle.out; omega) (fun e => by have := (Hol.out p2 e.symm).2; have := Hle.out; omega)
     have m3 : ¬ (p3 = g ∨ some p3 = v.ownBlock) := fun h => h.elim (fun e => by have := Hlt.out; have := Hle.out; omega) (fun e => by have := (Hol.out p3 e.symm).2; have := Hle.out; omega)
     refine ⟨⟨HW9.out.keep.cell q2 m2, HW9.out.keep.cell q32 m3⟩, ?_⟩
     refine perm_nil ?_
     go_wp2
     go_end0
     exact ⟨_, v9, rfl, HB.out, HW.out⟩
   · have htx : textJ (.mk 4 b n t ks vs) = quoteB (bl t) := by unfold textJ; rfl
     have hq := quoteB_ge (bl t)
     rw [htx] at hl ⊢
     have Hl := Lib.hid (show bs.length ≤ 1000000000000 ∧ (bl t).length ≤ 1000000000000 from ⟨by omega, by omega⟩)
     clear htx hl hk1 hk6 hq
     go_enter Tryd.func39, Tryd.ntmps39
     go_wp2_with (first
      | ((with_reducible refine at_dst (N := 2) rfl ?_); go_must (refine ev_box (cs := #[.pointer (some ⟨g, 0, none⟩)]) rfl rfl rfl ?_; intro p2 w1 hg1 hl1 hb1 hk1)
         have Hb1 := Lib.hid hb1
         have HK1 := Lib.hid hk1
         clear hb1 hk1
         (try simp only [PU]))
      | ((with_reducible refine at_dst (N := 3) rfl ?_); go_must (refine ev_box (cs := #[.int .i64 4, .bool b, .int .i64 n, .string t, .slice kA ks.length kc, .slice A vs.length c]) rfl rfl rfl ?_; intro p3 w2 hg2 hl2 hb2 hk2)
         have q2 := (blk_cell (hk2.blk Hb1.out id) 0).trans rfl
         have q30 := (blk_cell hb2 0).trans rfl
         have q31 := (blk_cell hb2 1).trans rfl
         have q32 := (blk_cell hb2 2).trans rfl
         have q33 := (blk_cell hb2 3).trans rfl
         have q34 := (blk_cell hb2 4).trans rfl
         have q35 := (blk_cell hb2 5).trans rfl
         have Hb2 := Lib.hid (And.intro (hk2.blk Hb1.out id) hb2)
         have HK2 := Lib.hid (HK1.out.trans hk2 (fun _ _ h => h))
         have HB2 := Lib.hid (HB.out.after HK2.out)
         have Hle := Lib.hid (show W.heap.size ≤ p2 ∧ W.heap.size ≤ p3 ∧ p2 < w2.heap.size ∧ p3 < w2.heap.size from ⟨by have := HK1.out.size; omega, by have := HK1.out.size; omega, blk_lt (hk2.blk Hb1.out id), blk_lt hb2⟩)
         clear hb2 hk2 Hb1 HK1 hg1 hl1 hg2 hl2
         (try simp only [PU]))
      | (go_at_call 66; go_must (refine (writeText HB2.out t Hl.out.1 Hl.out.2 (by have := HK2.out.size; have := Hg.out; omega)).mono ?_; rintro e w9 ⟨x9, v9, rfl, hb9, hw9⟩); have HB := Lib.hid hb9; have HW := Lib.hid (hw9.pre HK2.out); clear hb9 hw9; (try simp only [PU]))
     )
     go_end0
     exact ⟨_, v9, rfl, HB.out, HW.out⟩
   · have htx : textJ (.mk 5 b n t ks vs) = [91] ++ joinC (textL vs) ++ [93] := by unfold textJ; rfl
     have hj := joinC_len_eq (textL vs)
     rw [htx] at hl ⊢
     simp only [List.length_append, List.length_cons, List.length_nil] at hl
     have Hl := Lib.hid (show bs.length + lens (textL vs) + (textL vs).length + 1 ≤ 1000000000000 by omega)
     have hassoc : bs ++ ([91] ++ joinC (textL vs) ++ [93]) = bs ++ [91] ++ joinC (textL vs) ++ [93] := by simp
     rw [hassoc]
     clear htx hl hk1 hk6 hj hassoc
     go_enter Tryd.func39, Tryd.ntmps39
     go_wp2_with (first
      | ((with_reducible refine at_dst (N := 2) rfl ?_); go_must (refine ev_box (cs := #[.pointer (some ⟨g, 0, none⟩)]) rfl rfl rfl ?_; intro p2 w1 hg1 hl1 hb1 hk1)
         have Hb1 := Lib.hid hb1
         have HK1 := Lib.hid hk1
         clear hb1 hk1
         (try simp only [PU]))
      | ((with_reducible refine at_dst (N := 3) rfl ?_); go_must (refine ev_box (cs := #[.int .i64 5, .bool b, .int .i64 n, .string t, .slice kA ks.length kc, .slice A vs.length c]) rfl rfl rfl ?_; intro p3 w2 hg2 hl2 hb2 hk2)
         have q2 := (blk_cell (hk2.blk Hb1.out id) 0).trans rfl
         have q30 := (blk_cell hb2 0).trans rfl
         have q31 := (blk_cell hb2 1).trans rfl
         have q32 := (blk_cell hb2 2).trans rfl
         have q33 := (blk_cell hb2 3).trans rfl
         have q34 := (blk_cell hb2 4).trans rfl
         have q35 := (blk_cell hb2 5).trans rfl
         have Hb2 := Lib.hid (And.intro (hk2.blk Hb1.out id) hb2)
         have HK2 := Lib.hid (HK1.out.trans hk2 (fun _ _ h => h))
         have HB2 := Lib.hid (HB.out.after HK2.out)
         have Hle := Lib.hid (show W.heap.size ≤ p2 ∧ W.heap.size ≤ p3 ∧ p2 < w2.heap.size ∧ p3 < w2.heap.size from ⟨by have := HK1.out.size; omega, by have := HK1.out.size; omega, blk_lt (hk2.blk Hb1.out id), blk_lt hb2⟩)
         clear hb2 hk2 Hb1 HK1 hg1 hl1 hg2 hl2
         (try simp only [PU]))
      | (go_at_call 67
         have hrun := list68 91 93 g base p2 p3 (textL vs) w2 v bs HB2.out (by have := HK2.out.size; have := Hg.out; omega) Hl.out (fun k hk W' v' bs' h1 h2 h3 => by
          rw [textL_length] at hk
          obtain ⟨b', o', rfl, hb', h6⟩ := HA.out k hk
          have hkw : Keeps (fun k => base ≤ k) W W' := HK2.out.any.trans (h2.from HB2.out Hg.out.1) (fun _ _ h => h)
          have e2 : p2 ≠ g := by have := Hlt.out; have := Hle.out; omega
          have e3 : p3 ≠ g := by have := Hlt.out; have := Hle.out; omega
          have o2 : some p2 ≠ v.ownBlock := fun e => by have := (Hol.out p2 e.symm).2; have := Hle.out; omega
          have o3 : some p3 ≠ v.ownBlock := fun e => by have := (Hol.out p3 e.symm).2; have := Hle.out; omega
          have nb : ∀ q, q < w2.heap.size → some q ≠ v.ownBlock → some q ≠ v'.ownBlock := fun q hq h1 e => by
           rcases h2.row with hr | ⟨b, hb, hl⟩
           · exact h1 (e.trans hr)
           · rw [hb] at e; injection e with e; omega
          refine part68 hk (h6.keep (Hw.out.trans hkw (fun _ _ h => h)) (by have := HX.out b' hb'; omega)) h1 (HX.out b' hb') Hg.out.1 (h2.block Hb2.out.1 e2 o2) (h2.block Hb2.out.2 e3 o3) ⟨⟨e2, nb p2 Hle.out.2.2.1 o2⟩, e3, nb p3 Hle.out.2.2.2 o3⟩ (fun W'' hk'' => ?_)
          rw [textL_get hk] at h3 ⊢
          exact IH.out k hk W'' g base v' bs' (Hw.out.trans (hkw.then hk'') (fun _ _ h => h)) HX.out (HT.out.keep (hkw.then hk'')) (h1.after hk'') Hg.out.1 (by have := hkw.size; have := hk''.size; have := Hg.out; omega) (formed_get Hf.out.1 hk) h3)
         rw [textL_length] at hrun
         go_must (refine hrun.mono ?_; rintro e w9 ⟨x9, v9, rfl, hb9, hw9⟩); have HB := Lib.hid hb9; have HW := Lib.hid (hw9.pre HK2.out); clear hb9 hw9 hrun; (try simp only [PU]))
     )
     go_end0
     exact ⟨_, v9, rfl, HB.out, HW.out⟩
   · have hlen : ks.length = vs.length := by rcases Hf.out.2 with h | h; · exact absurd rfl h
                                             · exact h
     have htx : textJ (.mk 6 b n t ks vs) = [123] ++ joinC (pairT ks vs) ++ [125] := by unfold textJ; rfl
     have hj := joinC_len_eq (pairT ks vs)
     rw [htx] at hl ⊢
     simp only [List.length_append, List.length_cons, List.length_nil] at hl
     have Hl := Lib.hid (show bs.length + lens (pairT ks vs) + (pairT ks vs).length + 1 ≤ 1000000000000 by omega)
     have hassoc : bs ++ ([123] ++ joinC (pairT ks vs) ++ [125]) = bs ++ [123] ++ joinC (pairT ks vs) ++ [125] := by simp
     rw [hassoc]
     have Hlen := Lib.hid hlen
     clear htx hl hk1 hk6 hj hassoc hlen
     go_enter Tryd.func39, Tryd.ntmps39
     go_wp2_with (first
      | ((with_reducible refine at_dst (N := 2) rfl ?_); go_must (refine ev_box (cs := #[.pointer (some ⟨g, 0, none⟩)]) rfl rfl rfl ?_; intro p2 w1 hg1 hl1 hb1 hk1)
         have Hb1 := Lib.hid hb1
         have HK1 := Lib.hid hk1
         clear hb1 hk1
         (try simp only [PU]))
      | ((with_reducible refine at_dst (N := 3) rfl ?_); go_must (refine ev_box (cs := #[.int .i64 6, .bool b, .int .i64 n, .string t, .slice kA ks.length kc, .slice A vs.length c]) rfl rfl rfl ?_; intro p3 w2 hg2 hl2 hb2 hk2)
         have q2 := (blk_cell (hk2.blk Hb1.out id) 0).trans rfl
         have q30 := (blk_cell hb2 0).trans rfl
         have q31 := (blk_cell hb2 1).trans rfl
         have q32 := (blk_cell hb2 2).trans rfl
         have q33 := (blk_cell hb2 3).trans rfl
         have q34 := (blk_cell hb2 4).trans rfl
         have q35 := (blk_cell hb2 5).trans rfl
         have Hb2 := Lib.hid (And.intro (hk2.blk Hb1.out id) hb2)
         have HK2 := Lib.hid (HK1.out.trans hk2 (fun _ _ h => h))
         have HB2 := Lib.hid (HB.out.after HK2.out)
         have Hle := Lib.hid (show W.heap.size ≤ p2 ∧ W.heap.size ≤ p3 ∧ p2 < w2.heap.size ∧ p3 < w2.heap.size from ⟨by have := HK1.out.size; omega, by have := HK1.out.size; omega, blk_lt (hk2.blk Hb1.out id), blk_lt hb2⟩)
         clear hb2 hk2 Hb1 HK1 hg1 hl1 hg2 hl2
         (try simp only [PU]))
      | (go_at_call 67
         have hrun := list69 123 125 g base p2 p3 (pairT ks vs) w2 v bs HB2.out (by have := HK2.out.size; have := Hg.out; omega) Hl.out (fun k hk W' v' bs' h1 h2 h3 => by
          rw [pairT_length Hlen.out] at hk
          have hkk : k < ks.length := by rw [Hlen.out]; exact hk
          obtain ⟨b', o', rfl, hb', h6⟩ := HA.out k hk
          obtain ⟨kb, ko, rfl, hkb, hkey⟩ := Hkx.out k hkk
          have hkw : Keeps (fun k => base ≤ k) W W' := HK2.out.any.trans (h2.from HB2.out Hg.out.1) (fun _ _ h => h)
          have e2 : p2 ≠ g := by have := Hlt.out; have := Hle.out; omega
          have e3 : p3 ≠ g := by have := Hlt.out; have := Hle.out; omega
          have o2 : some p2 ≠ v.ownBlock := fun e => by have := (Hol.out p2 e.symm).2; have := Hle.out; omega
          have o3 : some p3 ≠ v.ownBlock := fun e => by have := (Hol.out p3 e.symm).2; have := Hle.out; omega
          have nb : ∀ q, q < w2.heap.size → some q ≠ v.ownBlock → some q ≠ v'.ownBlock := fun q hq h1 e => by
           rcases h2.row with hr | ⟨b, hb, hl⟩
           · exact h1 (e.trans hr)
           · rw [hb] at e; injection e with e; omega
          rw [pairT_get hk Hlen.out] at h3 ⊢
          have hl3 := h3
          simp only [List.length_append, List.length_cons, List.length_nil] at hl3
          have hww := Hw.out.trans hkw (fun _ _ h => h)
          refine part69 hkk hk (hww.cell hkey (by have := HX.out kb hkb; show ¬ base ≤ kb; omega)) (h6.keep hww (by have := HX.out b' hb'; omega)) h1 (HX.out kb hkb) (HX.out b' hb') Hg.out.1 (by have := hkw.size; have := Hg.out; omega) (h2.block Hb2.out.1 e2 o2) (h2.block Hb2.out.2 e3 o3) ⟨⟨e2, nb p2 Hle.out.2.2.1 o2⟩, e3, nb p3 Hle.out.2.2.2 o3⟩ (by omega) (fun W'' v'' hb'' hk'' => ?_)
          exact IH.out k hk W'' g base v'' _ (hww.trans hk'' (fun _ _ h => h)) HX.out (HT.out.keep (hkw.trans hk'' (fun _ _ h => h))) hb'' Hg.out.1 (by have := hkw.size; have := hk''.size; have := Hg.out; omega) (formed_get Hf.out.1 hk) (by simp only [List.length_append, List.length_cons, List.length_nil]; omega))
         rw [pairT_length Hlen.out] at hrun
         go_must (refine hrun.mono ?_; rintro e w9 ⟨x9, v9, rfl, hb9, hw9⟩); have HB := Lib.hid hb9; have HW := Lib.hid (hw9.pre HK2.out); clear hb9 hw9 hrun; (try simp only [PU]))
     )
     go_end0
     exact ⟨_, v9, rfl, by have h := HB.out; simp only [List.append_assoc, List.cons_append, List.nil_append] at h ⊢; exact h, HW.out⟩
end Go.Proofs.WV

namespace Go.Proofs.WV
open Go.RowKit Go.Proofs.KL Go.Proofs.WM
set_option maxRecDepth 100000
set_option linter.unusedSimpArgs false
set_option linter.unusedVariables false

theorem formedL_iff : ∀ vs : List J, formedL vs = true ↔ ∀ i, i < vs.length → formedJ (vs.getD i default) = true
 | [] => by simp [formedL]
 | v :: vs => by
   simp only [formedL, Bool.and_eq_true, formedL_iff vs]
   constructor
   · rintro ⟨h1, h2⟩ i hi
     cases i with
     | zero => simpa using h1
     | succ i => simp only [List.getD_cons_succ]; exact h2 i (by simpa using hi)
   · intro h
     exact ⟨by simpa using h 0 (by simp), fun i hi => by simpa using h (i + 1) (by simpa using hi)⟩
set_option maxHeartbeats 1000000 in
theorem not63 {W : World} {X : Nat → Prop} {w : World} {x0 x1 x2 x3 x4 x5 : Value} {j : J} {r : Bool} (hx : JX w X (.agg #[x0, x1, x2, x3, x4, x5]) j)
  (hrun : ∀ W', Keeps Nob W W' → Calls Tryd.prog 37 #[.agg #[x0, x1, x2, x3, x4, x5]] W' fun e w' => e = .returned (.bool r) ∧ Keeps Nob W' w') :
  Calls Tryd.prog 63 #[.agg #[x0, x1, x2, x3, x4, x5]] W fun e w' => e = .returned (.bool (!r)) ∧ Keeps Nob W w' := by
 obtain ⟨y0, y1, y2, y3, yA, yn, yc, yB, ym, yd, ⟨rfl, rfl, rfl⟩, rfl, rfl, rfl⟩ := hx.six
 have Hrun := Lib.hid hrun
 clear hx hrun
 go_enter Tryd.func63, Tryd.ntmps63
 go_wp2_with (first
  | ((with_reducible refine at_dst (N := 1) rfl ?_); go_must (refine ev_box (cs := #[.int .i64 y0, .bool y1, .int .i64 y2, .string y3, .slice yA yn yc, .slice yB ym yd]) rfl rfl rfl ?_; intro g1 w1 hg1 hl1 hb1 hk1)
     have v0 := (blk_cell hb1 0).trans rfl
     have v1 := (blk_cell hb1 1).trans rfl
     have v2 := (blk_cell hb1 2).trans rfl
     have v3 := (blk_cell hb1 3).trans rfl
     have v4 := (blk_cell hb1 4).trans rfl
     have v5 := (blk_cell hb1 5).trans rfl
     have HK1 := Lib.hid hk1
     clear hb1 hk1
     (try simp only [PU]))
  | (go_at_call 37; go_must (refine (Hrun.out w1 HK1.out).mono ?_; rintro e w2 ⟨rfl, hk2⟩); have HK2 := Lib.hid (HK1.out.trans hk2 (fun _ _ h => h)); clear hk2; (try simp only [PU]))
 )
 go_ret
 exact ⟨rfl, HK2.out⟩
set_option maxHeartbeats 1000000 in
theorem index93 {w W : World} {X : Nat → Prop} {A : Option Addr} {c : Nat} {u : Nat → Nat → Value} {vs : List J} (hw : Keeps Nob w W) (hc : vs.length ≤ 1000000000000)
  (hA : ∀ i, i < vs.length → ∃ b o, A = some ⟨b, o, none⟩ ∧ X b ∧ Six w b (o + i * 6) (u i 0) (u i 1) (u i 2) (u i 3) (u i 4) (u i 5))
  (hv : ∀ i, i < vs.length → JX w X (.agg #[u i 0, u i 1, u i 2, u i 3, u i 4, u i 5]) (vs.getD i default))
  (hp : ∀ i, i < vs.length → ∀ W', Keeps Nob w W' → Calls Tryd.prog 37 #[.agg #[u i 0, u i 1, u i 2, u i 3, u i 4, u i 5]] W' fun e w' => e = .returned (.bool (formedJ (vs.getD i default))) ∧ Keeps Nob W' w') :
  Calls Tryd.prog 93 #[.slice A vs.length c, .func (.func 63) #[] #[]] W fun e w' => (∃ r : Int, e = .returned (.int .i64 r) ∧ (0 ≤ r ↔ formedL vs = false)) ∧ Keeps Nob W w' := by
 obtain ⟨len, hlen⟩ : ∃ x, vs.length = x := ⟨_, rfl⟩
 have Hlen := Lib.hid hlen
 rw [hlen] at hc ⊢
 have HA := Lib.hid hA
 have HV := Lib.hid hv
 have HP := Lib.hid hp
 have HW := Lib.hid hw
 clear hlen hA hv hp hw
 go_enter Tryd.func93, Tryd.ntmps93
 go_wp2
 go_loopw [5, 8] (fun nv iv wr => ∃ j : Nat, iv = .int .i64 j ∧ j ≤ len ∧ Hid (Keeps Nob W wr) ∧ Hid (∀ i, i < j → formedJ (vs.getD i default) = true)) (fun _ iv _ => len - (intOf iv).toNat)
 case atStart => exact ⟨0, rfl, Nat.zero_le _, Lib.hid (Keeps.refl _ _), Lib.hid (fun i h => absurd h (Nat.not_lt_zero _))⟩
 case round =>
  obtain ⟨j, rfl, hj, HKr, HF⟩ := hrel
  by_cases hlt : j < len
  · obtain ⟨b', o, rfl, -, h6⟩ := HA.out j (by rw [Hlen.out]; exact hlt)
    obtain ⟨⟨e0, e1, e2⟩, e3, e4, e5⟩ := h6.keep (HW.out.trans HKr.out (fun _ _ h => h)) id
    have Hrun := Lib.hid (not63 (W := wr) (HV.out j (by rw [Hlen.out]; exact hlt)) (fun W' hk => HP.out j (by rw [Hlen.out]; exact hlt) W' ((HW.out.trans HKr.out (fun _ _ h => h)).trans hk (fun _ _ h => h))))
    generalize u j 0 = x0 at *
    generalize u j 1 = x1 at *
    generalize u j 2 = x2 at *
    generalize u j 3 = x3 at *
    generalize u j 4 = x4 at *
    generalize u j 5 = x5 at *
    obtain ⟨fj, hfj⟩ : ∃ x, formedJ (vs.getD j default) = x := ⟨_, rfl⟩
    rw [hfj] at Hrun
    have Hfj := Lib.hid hfj
    clear h6 hfj
    cases fj
    · go_wp2_with (first
       | (go_at_call 63; go_must (refine Hrun.out.mono ?_; rintro e w4 ⟨rfl, hk4⟩); have HK4 := Lib.hid (HKr.out.trans hk4 (fun _ _ h => h)); clear hk4; (try simp only [PU]))
      )
      go_ret
      refine ⟨⟨j, rfl, fun _ => ?_, fun _ => by omega⟩, HK4.out⟩
      rcases hfl : formedL vs with _ | _
      · rfl
      · have := (formedL_iff vs).1 hfl j (by rw [Hlen.out]; exact hlt)
        rw [Hfj.out] at this
        cases this
    · go_wp2_with (first
       | (go_at_call 63; go_must (refine Hrun.out.mono ?_; rintro e w4 ⟨rfl, hk4⟩); have HK4 := Lib.hid (HKr.out.trans hk4 (fun _ _ h => h)); clear hk4; (try simp only [PU]))
      )
      go_roundw
      case rel =>
       refine ⟨j + 1, by go_num, by omega, HK4, Lib.hid (fun i hi => ?_)⟩
       by_cases e : i = j
       · rw [e]; exact Hfj.out
       · exact HF.out i (by omega)
      case measure => simp [intOf]; omega
  · have hj' : j = len := by omega
    subst hj'
    go_wp2
    go_ret
    have hfl := (formedL_iff vs).2 (fun i hi => HF.out i (by rw [← Hlen.out]; exact hi))
    exact ⟨⟨-1, rfl, by simp [hfl]⟩, HKr.out⟩
theorem contains62 {w W : World} {X : Nat → Prop} {A : Option Addr} {c : Nat} {u : Nat → Nat → Value} {vs : List J} (hw : Keeps Nob w W) (hc : vs.length ≤ 1000000000000)
  (hA : ∀ i, i < vs.length → ∃ b o, A = some ⟨b, o, none⟩ ∧ X b ∧ Six w b (o + i * 6) (u i 0) (u i 1) (u i 2) (u i 3) (u i 4) (u i 5))
  (hv : ∀ i, i < vs.length → JX w X (.agg #[u i 0, u i 1, u i 2, u i 3, u i 4, u i 5]) (vs.getD i default))
  (hp : ∀ i, i < vs.length → ∀ W', Keeps Nob w W' → Calls Tryd.prog 37 #[.agg #[u i 0, u i 1, u i 2, u i 3, u i 4, u i 5]] W' fun e w' => e = .returned (.bool (formedJ (vs.getD i default))) ∧ Keeps Nob W' w') :
  Calls Tryd.prog 62 #[.slice A vs.length c, .func (.func 63) #[] #[]] W fun e w' => e = .returned (.bool (!formedL vs)) ∧ Keeps Nob W w' := by
 have Hrun := Lib.hid (index93 (c := c) hw hc hA hv hp)
 generalize vs.length = len at *
 clear hw hc hA hv hp
 go_enter Tryd.func62, Tryd.ntmps62
 go_wp2_with (first
  | (go_at_call 93; go_must (refine Hrun.out.mono ?_; rintro e w4 ⟨⟨r, rfl, hr⟩, hk4⟩); have HK4 := Lib.hid hk4; have Hr := Lib.hid hr; clear hk4 hr; (try simp only [PU]))
 )
 go_ret
 refine ⟨?_, HK4.out⟩
 have := Hr.out
 rcases hfl : formedL vs with _ | _ <;> rw [hfl] at this <;> simp at this ⊢ <;> omega
end Go.Proofs.WV

namespace Go.Proofs.WV
open Go.RowKit Go.Proofs.KL Go.Proofs.WM
set_option maxRecDepth 100000
set_option linter.unusedSimpArgs false
set_option linter.unusedVariables false

theorem at_update {P : Program} {ops : Array Oper} {rest : List Oper} {o : Oper} {a : Act} {Q : Exit → Act → World → Prop} {t : TypeId} {m k v : Operand} {W : World} (_h : o.op = .mapUpdate t m k v) (h : wpList P ops Q (o :: rest) a W) : wpList P ops Q (o :: rest) a W := h
theorem zero98 : (Tryd.prog.info? 4).map (·.zero) = some (some (.bool false)) := by kernel_rfl
theorem hasKey_mem (q : ByteArray) : ∀ ks : List ByteArray, hasKey ks q = true ↔ q ∈ ks
 | [] => by simp [hasKey]
 | k :: ks => by
   rw [hasKey_cons]
   simp only [Bool.or_eq_true, decide_eq_true_eq, hasKey_mem q ks, List.mem_cons]
   constructor
   · rintro (h | h); · exact .inl h.symm
     · exact .inr h
   · rintro (h | h); · exact .inl h.symm
     · exact .inr h
theorem nodup_step {ks : List ByteArray} {i : Nat} (hi : i < ks.length) : (ks.take (i + 1)).Nodup ↔ (ks.take i).Nodup ∧ hasKey (ks.take i) (ks.getD i ByteArray.empty) = false := by
 have e : ks.take (i + 1) = ks.take i ++ [ks.getD i ByteArray.empty] := by
  rw [List.take_succ_eq_append_getElem hi, List.getD_eq_getElem?_getD, List.getElem?_eq_getElem hi]; rfl
 rw [e, List.nodup_append]
 have hm := hasKey_mem (ks.getD i ByteArray.empty) (ks.take i)
 constructor
 · rintro ⟨h1, -, h3⟩
   refine ⟨h1, ?_⟩
   rcases hk : hasKey (ks.take i) (ks.getD i ByteArray.empty) with _ | _
   · rfl
   · exact absurd rfl (h3 _ (hm.1 hk) _ (List.mem_singleton.2 rfl))
 · rintro ⟨h1, h2⟩
   refine ⟨h1, by simp, fun a ha b hb e => ?_⟩
   rw [List.mem_singleton.1 hb] at e
   rw [e] at ha
   rw [hm.2 ha] at h2
   cases h2
theorem nodup_all (ks : List ByteArray) (h : ks.Nodup) (i : Nat) : (ks.take i).Nodup := h.sublist (List.take_sublist _ _)
theorem fine_eq (k : Int) (b : Bool) (n : Int) (t : ByteArray) (ks : List ByteArray) (nv : Nat) : fineJ k b n t ks nv = (decide (1 ≤ k ∧ k ≤ 6) && ((!b || k == 2) && (n == 0 || k == 3) && (t.toList.isEmpty || k == 4)) && (((ks.length : Int) == 0 || k == 6) && ((nv : Int) == 0 || decide (5 ≤ k))) && (decide (-9007199254740991 ≤ n ∧ n ≤ 9007199254740991) && (!(k == 6) || !((ks.length : Int) != (nv : Int)))) && decide ks.Nodup) := by
 have ht : t.toList.isEmpty = decide (bl t = []) := by
  rw [Lib.toList_data, Bool.eq_iff_iff]; simp [bl]
 have h1 : ((ks.length : Int) == 0) = decide (ks = []) := by
  rw [Bool.eq_iff_iff]; simp
 have h2 : ((nv : Int) == 0) = decide (nv = 0) := by rw [Bool.eq_iff_iff]; simp
 have h3 : ((ks.length : Int) != (nv : Int)) = !decide (ks.length = nv) := by
  rw [Bool.eq_iff_iff]; simp
  omega
 have h4 : ∀ z : Int, (k == z) = decide (k = z) := fun z => by rw [Bool.eq_iff_iff]; simp
 have h5 : (n == 0) = decide (n = 0) := by rw [Bool.eq_iff_iff]; simp
 rw [ht, h1, h2, h3, h4, h4, h4, h4, h5]
 unfold fineJ
 rw [Bool.not_not]
 simp only [Bool.and_assoc]
set_option maxHeartbeats 4000000 in
theorem formed37 {w : World} {X : Nat → Prop} {v : Value} {j : J} (h : JX w X v j) : ∀ W, Keeps Nob w W → sizeJ j ≤ 1000000000000 → Calls Tryd.prog 37 #[v] W fun e w' => e = .returned (.bool (formedJ j)) ∧ Keeps Nob W w' := by
 induction h with
 | mk k b n t ks vs kv A c u h1 hc hA hv ih =>
   intro W hW hb
   have hsz : vs.length ≤ 1000000000000 ∧ ks.length ≤ 1000000000000 ∧ sizeL vs ≤ 1000000000000 := by have h1 := size_len vs; unfold sizeJ at hb; omega
   obtain ⟨kA, kc, rfl, hkc, hkx⟩ := h1
   have hrunc : ∀ W', Keeps Nob w W' → Calls Tryd.prog 62 #[.slice A vs.length c, .func (.func 63) #[] #[]] W' fun e w' => e = .returned (.bool (!formedL vs)) ∧ Keeps Nob W' w' :=
    fun W' hw' => contains62 hw' hsz.1 hA hv (fun i hi W'' h'' => ih i hi W'' h'' (by have := size_get (vs := vs) (i := i) hi; omega))
   have Hrunc := Lib.hid hrunc
   have Hkx := Lib.hid hkx
   have HW := Lib.hid hW
   have Hsz := Lib.hid hsz
   obtain ⟨nk, hnk⟩ : ∃ x, ks.length = x := ⟨_, rfl⟩
   obtain ⟨nv, hnv⟩ : ∃ x, vs.length = x := ⟨_, rfl⟩
   have Hnk := Lib.hid hnk
   rw [hnk] at hkc hsz ⊢
   rw [hnv] at hsz Hrunc ⊢
   obtain ⟨hsz1, hsz2, -⟩ := hsz
   obtain ⟨fl, hfl⟩ : ∃ x, formedL vs = x := ⟨_, rfl⟩
   rw [hfl] at Hrunc
   have hfine : formedJ (.mk k b n t ks vs) = (fineJ k b n t ks nv && fl) := by unfold formedJ; rw [hnv, hfl]
   rw [hfine]
   clear hrunc hkx hW hnk hnv hfl hfine hA hv ih hc hb
   go_enter Tryd.func37, Tryd.ntmps37
   go_upto_region 1 with (first
    | ((with_reducible refine at_dst (N := 1) rfl ?_); go_must (refine ev_box (cs := #[.int .i64 k, .bool b, .int .i64 n, .string t, .slice kA nk kc, .slice A nv c]) rfl rfl rfl ?_; intro g1 w1 hg1 hl1 hb1 hk1)
       have v0 := (blk_cell hb1 0).trans rfl
       have v1 := (blk_cell hb1 1).trans rfl
       have v2 := (blk_cell hb1 2).trans rfl
       have v3 := (blk_cell hb1 3).trans rfl
       have v4 := (blk_cell hb1 4).trans rfl
       have v5 := (blk_cell hb1 5).trans rfl
       have HK1 := Lib.hid hk1
       have Hb1 := Lib.hid hb1
       clear hb1 hk1
       (try simp only [PU]))
   )
   obtain ⟨b', hb'⟩ : ∃ x, b = x := ⟨_, rfl⟩
   obtain ⟨B2, e2⟩ : ∃ x, (k == 2) = x := ⟨_, rfl⟩
   obtain ⟨B3, e3⟩ : ∃ x, (k == 3) = x := ⟨_, rfl⟩
   obtain ⟨B4, e4⟩ : ∃ x, (k == 4) = x := ⟨_, rfl⟩
   obtain ⟨B6, e6⟩ : ∃ x, (k == 6) = x := ⟨_, rfl⟩
   obtain ⟨N0, en⟩ : ∃ x, (n == 0) = x := ⟨_, rfl⟩
   obtain ⟨K0, ek⟩ : ∃ x, ((nk : Int) == 0) = x := ⟨_, rfl⟩
   obtain ⟨V0, ev⟩ : ∃ x, ((nv : Int) == 0) = x := ⟨_, rfl⟩
   obtain ⟨KV, ekv⟩ : ∃ x, ((nk : Int) != (nv : Int)) = x := ⟨_, rfl⟩
   rw [hb'] at v1
   have HE := Lib.hid (show b = b' ∧ (k == 2) = B2 ∧ (k == 3) = B3 ∧ (k == 4) = B4 ∧ (k == 6) = B6 ∧ (n == 0) = N0 ∧ ((nk : Int) == 0) = K0 ∧ ((nv : Int) == 0) = V0 ∧ ((nk : Int) != (nv : Int)) = KV from ⟨hb', e2, e3, e4, e6, en, ek, ev, ekv⟩)
   clear hb'
   go_cut [3] (fun s wx => ∃ pl : Bool, s = .bool pl ∧ Hid (pl = true ↔ 1 ≤ k ∧ k ≤ 6) ∧ wx = w1)
   case first =>
    go_wp2
    all_goals
     go_meet
     refine ⟨_, rfl, Lib.hid ?_, rfl⟩
     clear v0 v1 v2 v3 v4 v5 e2 e3 e4 e6 en ek ev ekv
     simp_all <;> omega
   case rest =>
    obtain ⟨pl, rfl, Hpl, rfl⟩ := hcut
    go_upto_region 2 with fail
    go_cut [4] (fun s wx => ∃ fn : Bool, s = .bool fn ∧ Hid (fn = ((!b' || B2) && (N0 || B3) && (t.toList.isEmpty || B4))) ∧ wx = wc)
    case first =>
     go_wp2
     all_goals
      go_meet
      refine ⟨_, rfl, Lib.hid ?_, rfl⟩
      clear v0 v1 v2 v3 v4 v5 e2 e3 e4 e6 en ek ev ekv
      simp [*]
    case rest =>
     obtain ⟨fn, rfl, Hfn, rfl⟩ := hcut
     go_upto_region 3 with fail
     go_cut [5] (fun s wx => ∃ li : Bool, s = .bool li ∧ Hid (li = ((K0 || B6) && (V0 || decide (5 ≤ k)))) ∧ wx = wc)
     case first =>
      go_wp2
      all_goals
       go_meet
       refine ⟨_, rfl, Lib.hid ?_, rfl⟩
       clear v0 v1 v2 v3 v4 v5 e2 e3 e4 e6 en ek ev ekv
       simp [*]
     case rest =>
      obtain ⟨li, rfl, Hli, rfl⟩ := hcut
      cases pl
      · go_wp2
        go_ret
        refine ⟨?_, HK1.out⟩
        have hz : fineJ k b n t ks nv = false := by
         rw [fine_eq, show decide (1 ≤ k ∧ k ≤ 6) = false from decide_eq_false (fun h => by cases Hpl.out.2 h)]
         simp only [Bool.false_and]
        rw [hz]
        rfl
      cases fn
      · go_wp2
        go_ret
        refine ⟨?_, HK1.out⟩
        have HE' := HE.out
        have hf := Hfn.out
        have hz : fineJ k b n t ks nv = false := by
         rw [fine_eq, HE'.1, HE'.2.1, HE'.2.2.1, HE'.2.2.2.1, HE'.2.2.2.2.2.1, ← hf]
         simp only [Bool.false_and, Bool.and_false]
        rw [hz]
        rfl
      cases li
      · go_wp2
        go_ret
        refine ⟨?_, HK1.out⟩
        have HE' := HE.out
        have hf := Hli.out
        have hz : fineJ k b n t ks nv = false := by
         rw [fine_eq, Hnk.out, HE'.2.2.2.2.1, HE'.2.2.2.2.2.2.1, HE'.2.2.2.2.2.2.2.1, ← hf]
         simp only [Bool.false_and, Bool.and_false]
        rw [hz]
        rfl
      go_upto_region 4 with fail
      go_cut [98] (fun s wx => ∃ no : Bool, s = .bool no ∧ Hid (no = !(decide (-9007199254740991 ≤ n ∧ n ≤ 9007199254740991) && (!B6 || !KV))) ∧ wx = wc)
      case first =>
       go_wp2
       all_goals
        go_meet
        refine ⟨_, rfl, Lib.hid ?_, rfl⟩
        clear v0 v1 v2 v3 v4 v5 e2 e3 e4 e6 en ek ev ekv
        first
        | (simp [*]; done)
        | (simp [*]; omega)
      case rest =>
       obtain ⟨no, rfl, Hno, rfl⟩ := hcut
       have hfe : fineJ k b n t ks nv = ((!no) && decide ks.Nodup) := by
        have HE' := HE.out
        have hf := Hno.out
        rw [fine_eq, Hnk.out, HE'.1, HE'.2.1, HE'.2.2.1, HE'.2.2.2.1, HE'.2.2.2.2.1, HE'.2.2.2.2.2.1, HE'.2.2.2.2.2.2.1, HE'.2.2.2.2.2.2.2.1, HE'.2.2.2.2.2.2.2.2, ← Hfn.out, ← Hli.out, hf, decide_eq_true (Hpl.out.1 rfl), Bool.not_not]
        simp only [Bool.true_and]
       have Hfe := Lib.hid hfe
       clear e2 e3 e4 e6 en ek ev ekv hfe
       cases no
       case true =>
        go_wp2
        go_ret
        refine ⟨?_, HK1.out⟩
        rw [Hfe.out]
        rfl
       have hgl := blk_lt Hb1.out
       go_wp2_with (first
        | ((with_reducible refine at_dst (N := 99) rfl ?_); go_must (refine ev_makeMap rfl rfl ?_; intro gm wm hgm hlm hbm hkm); have Hbm := Lib.hid hbm; have HKm := Lib.hid (HK1.out.trans hkm (fun _ _ h => h)); have Hb2 := Lib.hid (hkm.blk Hb1.out id); have q4 := (blk_cell Hb2.out 4).trans rfl; clear hbm hkm; (try simp only [PU]))
       )
       go_loopw [8, 103] (fun nv iv wr => ∃ (i : Nat) (es : Array MapEntry) (c' : Nat), iv = .int .i64 i ∧ i ≤ nk ∧ Hid (wr.heap[gm]? = some (.map es c') ∧ StrSet es.toList (ks.take i)) ∧ Hid (Keeps (· = gm) wm wr) ∧ Hid ((ks.take i).Nodup)) (fun _ iv _ => nk - (intOf iv).toNat)
       case atStart => exact ⟨0, _, _, rfl, Nat.zero_le _, Lib.hid ⟨Hbm.out, StrSet.nil⟩, Lib.hid (Keeps.refl _ _), Lib.hid (by simp)⟩
       case round =>
        obtain ⟨i, es, c', rfl, hi, Hm, HKr, Hnd⟩ := hrel
        by_cases hlt : i < nk
        · obtain ⟨kb, ko, rfl, -, hkey⟩ := Hkx.out i (by rw [Hnk.out]; exact hlt)
          have hltk : kb < w.heap.size := World.block_lt_of_cell? _ _ hkey
          have e0 := HKr.out.cell (HKm.out.cell (HW.out.cell hkey id) id) (by have := HW.out.size; have := HK1.out.size; show ¬ kb = gm; omega)
          obtain ⟨key, hkk⟩ : ∃ x, ks.getD i ByteArray.empty = x := ⟨_, rfl⟩
          rw [hkk] at e0
          have Hkk := Lib.hid hkk
          obtain ⟨hk, hhk⟩ : ∃ x, hasKey (ks.take i) key = x := ⟨_, rfl⟩
          have Hhk := Lib.hid hhk
          clear hkey hkk hhk
          cases hk
          · go_wp2_with (first
             | ((with_reducible refine at_dst (N := 109) rfl ?_); go_must (refine ev_lookup_set (q := key) rfl rfl Tryd.underlying98 Tryd.underlying9 zero98 rfl rfl Hm.out.1 Hm.out.2 ?_; rw [Hhk.out]); (try simp only [PU]))
             | (refine at_update rfl ?_; go_must (refine ev_mapUpdate_set (q := key) rfl rfl rfl Tryd.underlying98 Tryd.underlying9 rfl rfl rfl Hm.out.1 Hm.out.2 Hhk.out ?_; intro es5 c5 w5 hb5 hs5 hk5); have Hb5 := Lib.hid (And.intro hb5 hs5); have HK5 := Lib.hid hk5; clear hb5 hs5 hk5; (try simp only [PU]))
            )
            go_roundw
            case rel =>
             have htk : ks.take (i + 1) = ks.take i ++ [key] := by
              have hi' : i < ks.length := by rw [Hnk.out]; exact hlt
              rw [List.take_succ_eq_append_getElem hi', ← Hkk.out, List.getD_eq_getElem?_getD, List.getElem?_eq_getElem hi']; rfl
             refine ⟨i + 1, es5, c5, by go_num, by omega, Lib.hid ⟨Hb5.out.1, by rw [htk]; exact Hb5.out.2⟩, Lib.hid (HKr.out.trans HK5.out (fun _ _ h => h)), Lib.hid ((nodup_step (by rw [Hnk.out]; exact hlt)).2 ⟨Hnd.out, by rw [Hkk.out]; exact Hhk.out⟩)⟩
            case measure => simp [intOf]; omega
          · go_wp2_with (first
             | ((with_reducible refine at_dst (N := 109) rfl ?_); go_must (refine ev_lookup_set (q := key) rfl rfl Tryd.underlying98 Tryd.underlying9 zero98 rfl rfl Hm.out.1 Hm.out.2 ?_; rw [Hhk.out]); (try simp only [PU]))
            )
            go_ret
            refine ⟨?_, HKm.out.trans (M' := (· = gm)) HKr.out (fun q hq e => by have := HK1.out.size; omega)⟩
            have hnd : ¬ ks.Nodup := fun h => by
             have h2 := ((nodup_step (ks := ks) (i := i) (by rw [Hnk.out]; exact hlt)).1 (nodup_all ks h _)).2
             rw [Hkk.out, Hhk.out] at h2
             cases h2
            rw [Hfe.out, decide_eq_false hnd]
            rfl
        · have hi' : i = nk := by omega
          subst hi'
          have htl := List.take_length (l := ks)
          rw [Hnk.out] at htl
          have hnd : ks.Nodup := by have := Hnd.out; rw [htl] at this; exact this
          have Hfe2 := Lib.hid (Hfe.out.trans (by rw [decide_eq_true hnd]; rfl : _ = true))
          clear htl hnd
          have q5 := (blk_cell (HKr.out.blk Hb2.out (by show ¬ _ = gm; omega)) 5).trans rfl
          have HKz := Lib.hid (show Keeps Nob W wr from HKm.out.trans HKr.out (fun q hq e => by have := HK1.out.size; omega))
          go_wp2_with (first
           | (go_at_call 62; go_must (refine (Hrunc.out wr (HW.out.trans HKz.out (fun _ _ h => h))).mono ?_; rintro e w4 ⟨rfl, hk4⟩); have HK4 := Lib.hid (HKz.out.trans hk4 (fun _ _ h => h)); clear hk4; (try simp only [PU]))
          )
          go_ret
          refine ⟨?_, HK4.out⟩
          rw [Hfe2.out]
          simp
end Go.Proofs.WV

namespace Go.Proofs.WV
open Go.RowKit Go.Proofs.KL Go.Proofs.WM
set_option maxRecDepth 100000
set_option linter.unusedSimpArgs false
set_option linter.unusedVariables false

theorem text_ne (j : J) : textJ j ≠ [] := by
 obtain ⟨k, b, n, t, ks, vs⟩ := j
 unfold textJ
 split
 · simp
 split
 · split <;> simp
 split
 · obtain ⟨c, q, e, _⟩ := itoa_head (n := n); rw [e]; simp
 split
 · simp [quoteB]
 split <;> simp
def writeJ (j : J) : Bs × Int := if formedJ j = false then ([], 4) else if 40 < levelsJ j ∨ 1000000 < (textJ j).length then ([], 3) else (textJ j, 0)
theorem writeJ_check (j : J) : (writeJ j).2 = checkJ j := by
 unfold writeJ checkJ
 split
 · rfl
 split <;> rfl
theorem Tab.up {W : World} {a b : Nat} (h : Tab W a) (hb : a ≤ b) : Tab W b := by
 obtain ⟨g, h1, h2, h3⟩ := h
 exact ⟨g, h1, by omega, h3⟩
theorem JX.low {W : World} {X : Nat → Prop} {v : Value} {j : J} (h : JX W X v j) : JX W (fun b => b < W.heap.size) v j := h.keep (Keeps.refl Nob W) (fun _ _ _ => id) (fun _ hb _ => hb)
def RetStrInt (t : Bs) (n : Int) (W : World) (e : Ending) (w' : World) : Prop := e = .returned (.tuple #[.string (mkB t), .int .i64 n]) ∧ Keeps Nob W w'
set_option maxHeartbeats 4000000 in
theorem write15 {W : World} {X : Nat → Prop} {v : Value} {j : J} (h : JX W X v j) (ht : Tab W W.heap.size) (hs : sizeJ j ≤ 10000000000) : Calls Tryd.prog 15 #[v] W (RetStrInt (writeJ j).1 (writeJ j).2 W) := by
 obtain ⟨k, b, n, t, ks, vs, kv, vv, hj, rfl, hkv, hvv⟩ := h.open
 obtain ⟨kA, kc, rfl, -, -⟩ := id hkv
 obtain ⟨vA, vc, u, rfl, -, -, -⟩ := id hvv
 have H37 := Lib.hid (fun W' hk => formed37 h W' hk (by omega))
 have H38 := Lib.hid (fun W' hk => levels38 h W' hk (by omega))
 have H39 := Lib.hid (fun W' (hk : Keeps Nob W W') (g : Nat) hb hg (hf : formedJ j = true) (hl : ([] : Bs).length + (textJ j).length ≤ 1000000000000) => value39 h.low W' g W.heap.size (.slice none 0 0) [] hk.any (fun _ hb => hb) (ht.keep hk.any) hb hg hk.size hf hl)
 have Hlen := Lib.hid (fun (hf : formedJ j = true) => text_size j hf)
 have Hs := Lib.hid hs
 have Hne := Lib.hid (text_ne j)
 have hlv : levelsJ j ≤ 10000000000 := Nat.le_trans (levels_size j) hs
 obtain ⟨R, hR⟩ : ∃ x, writeJ j = x := ⟨_, rfl⟩
 rw [hR]
 have HR := Lib.hid hR
 obtain ⟨fm, hfm⟩ : ∃ x, formedJ j = x := ⟨_, rfl⟩
 rw [hfm] at H37 H39 Hlen
 have Hfm := Lib.hid hfm
 obtain ⟨lv, hlve⟩ : ∃ x, levelsJ j = x := ⟨_, rfl⟩
 rw [hlve] at H38 hlv
 have Hlv := Lib.hid hlve
 generalize ks.length = nk at *
 generalize vs.length = nv at *
 clear h hkv hvv ht hs hR hfm hlve hj
 cases fm
 · go_enter Tryd.func15, Tryd.ntmps15
   go_wp2_with (first
    | ((with_reducible refine at_dst (N := 1) rfl ?_); go_must (refine ev_box (cs := #[.int .i64 k, .bool b, .int .i64 n, .string t, .slice kA nk kc, .slice vA nv vc]) rfl rfl rfl ?_; intro g1 w1 hg1 hl1 hb1 hk1)
       have v0 := (blk_cell hb1 0).trans rfl
       have v1 := (blk_cell hb1 1).trans rfl
       have v2 := (blk_cell hb1 2).trans rfl
       have v3 := (blk_cell hb1 3).trans rfl
       have v4 := (blk_cell hb1 4).trans rfl
       have v5 := (blk_cell hb1 5).trans rfl
       have HK1 := Lib.hid hk1
       clear hb1 hk1
       (try simp only [PU]))
    | (go_at_call 37; go_must (refine (H37.out w1 HK1.out).mono ?_; rintro e w2 ⟨rfl, hk2⟩); have HK2 := Lib.hid (HK1.out.trans hk2 (fun _ _ h => h)); clear hk2; (try simp only [PU]))
   )
   go_ret2
   refine ⟨?_, HK2.out⟩
   rw [← HR.out]
   unfold writeJ
   rw [if_pos Hfm.out]
   rfl
 · by_cases hdeep : 40 < lv
   · go_enter Tryd.func15, Tryd.ntmps15
     go_wp2_with (first
      | ((with_reducible refine at_dst (N := 1) rfl ?_); go_must (refine ev_box (cs := #[.int .i64 k, .bool b, .int .i64 n, .string t, .slice kA nk kc, .slice vA nv vc]) rfl rfl rfl ?_; intro g1 w1 hg1 hl1 hb1 hk1)
         have v0 := (blk_cell hb1 0).trans rfl
         have v1 := (blk_cell hb1 1).trans rfl
         have v2 := (blk_cell hb1 2).trans rfl
         have v3 := (blk_cell hb1 3).trans rfl
         have v4 := (blk_cell hb1 4).trans rfl
         have v5 := (blk_cell hb1 5).trans rfl
         have HK1 := Lib.hid hk1
         have Hb1 := Lib.hid hb1
         clear hb1 hk1
         (try simp only [PU]))
      | (go_at_call 37; go_must (refine (H37.out w1 HK1.out).mono ?_; rintro e w2 ⟨rfl, hk2⟩)
         clear v0 v1 v2 v3 v4 v5
         have hb2 := hk2.blk Hb1.out id
         have v0 := (blk_cell hb2 0).trans rfl
         have v1 := (blk_cell hb2 1).trans rfl
         have v2 := (blk_cell hb2 2).trans rfl
         have v3 := (blk_cell hb2 3).trans rfl
         have v4 := (blk_cell hb2 4).trans rfl
         have v5 := (blk_cell hb2 5).trans rfl
         have HK2 := Lib.hid (HK1.out.trans hk2 (fun _ _ h => h))
         have Hb2 := Lib.hid hb2
         clear hk2 hb2
         (try simp only [PU]))
      | (go_at_call 38; go_must (refine (H38.out w2 HK2.out).mono ?_; rintro e w3 ⟨rfl, hk3⟩)
         clear v0 v1 v2 v3 v4 v5
         have HK3 := Lib.hid (HK2.out.trans hk3 (fun _ _ h => h))
         have Hb3 := Lib.hid (hk3.blk Hb2.out id)
         clear hk3
         (try simp only [PU]))
      | ((with_reducible refine at_dst (N := 14) rfl ?_); go_must (refine ev_box (cs := #[.pointer none, .slice none 0 0]) rfl rfl rfl ?_; intro g4 w4 hg4 hl4 hb4 hk4)
         have hb5 := hk4.blk Hb3.out id
         have v0 := (blk_cell hb5 0).trans rfl
         have v1 := (blk_cell hb5 1).trans rfl
         have v2 := (blk_cell hb5 2).trans rfl
         have v3 := (blk_cell hb5 3).trans rfl
         have v4 := (blk_cell hb5 4).trans rfl
         have v5 := (blk_cell hb5 5).trans rfl
         have HK4 := Lib.hid (HK3.out.trans hk4 (fun _ _ h => h))
         have Hb4 := Lib.hid (show Bld w4 g4 W.heap.size (.slice none 0 0) [] from ⟨⟨_, hb4, .inl rfl⟩, .inl ⟨rfl, rfl⟩⟩)
         have Hg4 := Lib.hid (show W.heap.size ≤ g4 by have := HK3.out.size; omega)
         clear hk4 hb4 hb5
         (try simp only [PU]))
      | (go_at_call 39; go_must (refine (H39.out w4 HK4.out g4 Hb4.out Hg4.out rfl (by have := Hlen.out rfl; have := Hs.out; simp only [List.length_nil]; omega)).mono ?_; rintro e w5 ⟨x5, v9, rfl, hb5, hw5⟩)
         rw [List.nil_append] at hb5
         have HB5 := Lib.hid hb5
         have HK5 := Lib.hid (show Keeps Nob W w5 from HK4.out.trans hw5.keep (fun q hq e => e.elim (fun e => by have := Hg4.out; omega) (fun e => by cases e)))
         clear v0 v1 v2 v3 v4 v5
         clear hb5 hw5
         (try simp only [PU]))
      | (go_at_call 40; go_must (refine (bldLen HB5.out).mono ?_; rintro e w6 ⟨rfl, rfl⟩); rw [Htl.out]; (try simp only [PU]))
      | (go_at_call 41; go_must (refine (bldString HB5.out Hne.out).mono ?_; rintro e w6 ⟨rfl, hk6⟩); have HK6 := Lib.hid (show Keeps Nob W w6 from HK5.out.trans hk6 (fun q hq e => by have := (HB5.out.own.lt q e.symm).1; omega)); clear hk6; (try simp only [PU]))
     )
     go_ret2
     refine ⟨?_, HK3.out⟩
     rw [← HR.out]
     unfold writeJ
     rw [if_neg (by rw [Hfm.out]; decide), if_pos (.inl (by rw [Hlv.out]; exact hdeep))]
     rfl
   · by_cases hlong : 1000000 < (textJ j).length
     · obtain ⟨tl, htl⟩ : ∃ x, (textJ j).length = x := ⟨_, rfl⟩
       have Htl := Lib.hid htl
       rw [htl] at hlong
       clear htl
       go_enter Tryd.func15, Tryd.ntmps15
       go_wp2_with (first
        | ((with_reducible refine at_dst (N := 1) rfl ?_); go_must (refine ev_box (cs := #[.int .i64 k, .bool b, .int .i64 n, .string t, .slice kA nk kc, .slice vA nv vc]) rfl rfl rfl ?_; intro g1 w1 hg1 hl1 hb1 hk1)
           have v0 := (blk_cell hb1 0).trans rfl
           have v1 := (blk_cell hb1 1).trans rfl
           have v2 := (blk_cell hb1 2).trans rfl
           have v3 := (blk_cell hb1 3).trans rfl
           have v4 := (blk_cell hb1 4).trans rfl
           have v5 := (blk_cell hb1 5).trans rfl
           have HK1 := Lib.hid hk1
           have Hb1 := Lib.hid hb1
           clear hb1 hk1
           (try simp only [PU]))
        | (go_at_call 37; go_must (refine (H37.out w1 HK1.out).mono ?_; rintro e w2 ⟨rfl, hk2⟩)
           clear v0 v1 v2 v3 v4 v5
           have hb2 := hk2.blk Hb1.out id
           have v0 := (blk_cell hb2 0).trans rfl
           have v1 := (blk_cell hb2 1).trans rfl
           have v2 := (blk_cell hb2 2).trans rfl
           have v3 := (blk_cell hb2 3).trans rfl
           have v4 := (blk_cell hb2 4).trans rfl
           have v5 := (blk_cell hb2 5).trans rfl
           have HK2 := Lib.hid (HK1.out.trans hk2 (fun _ _ h => h))
           have Hb2 := Lib.hid hb2
           clear hk2 hb2
           (try simp only [PU]))
        | (go_at_call 38; go_must (refine (H38.out w2 HK2.out).mono ?_; rintro e w3 ⟨rfl, hk3⟩)
           clear v0 v1 v2 v3 v4 v5
           have HK3 := Lib.hid (HK2.out.trans hk3 (fun _ _ h => h))
           have Hb3 := Lib.hid (hk3.blk Hb2.out id)
           clear hk3
           (try simp only [PU]))
        | ((with_reducible refine at_dst (N := 14) rfl ?_); go_must (refine ev_box (cs := #[.pointer none, .slice none 0 0]) rfl rfl rfl ?_; intro g4 w4 hg4 hl4 hb4 hk4)
           have hb5 := hk4.blk Hb3.out id
           have v0 := (blk_cell hb5 0).trans rfl
           have v1 := (blk_cell hb5 1).trans rfl
           have v2 := (blk_cell hb5 2).trans rfl
           have v3 := (blk_cell hb5 3).trans rfl
           have v4 := (blk_cell hb5 4).trans rfl
           have v5 := (blk_cell hb5 5).trans rfl
           have HK4 := Lib.hid (HK3.out.trans hk4 (fun _ _ h => h))
           have Hb4 := Lib.hid (show Bld w4 g4 W.heap.size (.slice none 0 0) [] from ⟨⟨_, hb4, .inl rfl⟩, .inl ⟨rfl, rfl⟩⟩)
           have Hg4 := Lib.hid (show W.heap.size ≤ g4 by have := HK3.out.size; omega)
           clear hk4 hb4 hb5
           (try simp only [PU]))
        | (go_at_call 39; go_must (refine (H39.out w4 HK4.out g4 Hb4.out Hg4.out rfl (by have := Hlen.out rfl; have := Hs.out; simp only [List.length_nil]; omega)).mono ?_; rintro e w5 ⟨x5, v9, rfl, hb5, hw5⟩)
           rw [List.nil_append] at hb5
           have HB5 := Lib.hid hb5
           have HK5 := Lib.hid (show Keeps Nob W w5 from HK4.out.trans hw5.keep (fun q hq e => e.elim (fun e => by have := Hg4.out; omega) (fun e => by cases e)))
           clear v0 v1 v2 v3 v4 v5
           clear hb5 hw5
           (try simp only [PU]))
        | (go_at_call 40; go_must (refine (bldLen HB5.out).mono ?_; rintro e w6 ⟨rfl, rfl⟩); rw [Htl.out]; (try simp only [PU]))
        | (go_at_call 41; go_must (refine (bldString HB5.out Hne.out).mono ?_; rintro e w6 ⟨rfl, hk6⟩); have HK6 := Lib.hid (show Keeps Nob W w6 from HK5.out.trans hk6 (fun q hq e => by have := (HB5.out.own.lt q e.symm).1; omega)); clear hk6; (try simp only [PU]))
       )
       go_ret2
       refine ⟨?_, HK5.out⟩
       rw [← HR.out]
       unfold writeJ
       rw [if_neg (by rw [Hfm.out]; decide), if_pos (.inr (by rw [Htl.out]; exact hlong))]
       rfl
     · obtain ⟨tl, htl⟩ : ∃ x, (textJ j).length = x := ⟨_, rfl⟩
       have Htl := Lib.hid htl
       rw [htl] at hlong
       clear htl
       go_enter Tryd.func15, Tryd.ntmps15
       go_wp2_with (first
        | ((with_reducible refine at_dst (N := 1) rfl ?_); go_must (refine ev_box (cs := #[.int .i64 k, .bool b, .int .i64 n, .string t, .slice kA nk kc, .slice vA nv vc]) rfl rfl rfl ?_; intro g1 w1 hg1 hl1 hb1 hk1)
           have v0 := (blk_cell hb1 0).trans rfl
           have v1 := (blk_cell hb1 1).trans rfl
           have v2 := (blk_cell hb1 2).trans rfl
           have v3 := (blk_cell hb1 3).trans rfl
           have v4 := (blk_cell hb1 4).trans rfl
           have v5 := (blk_cell hb1 5).trans rfl
           have HK1 := Lib.hid hk1
           have Hb1 := Lib.hid hb1
           clear hb1 hk1
           (try simp only [PU]))
        | (go_at_call 37; go_must (refine (H37.out w1 HK1.out).mono ?_; rintro e w2 ⟨rfl, hk2⟩)
           clear v0 v1 v2 v3 v4 v5
           have hb2 := hk2.blk Hb1.out id
           have v0 := (blk_cell hb2 0).trans rfl
           have v1 := (blk_cell hb2 1).trans rfl
           have v2 := (blk_cell hb2 2).trans rfl
           have v3 := (blk_cell hb2 3).trans rfl
           have v4 := (blk_cell hb2 4).trans rfl
           have v5 := (blk_cell hb2 5).trans rfl
           have HK2 := Lib.hid (HK1.out.trans hk2 (fun _ _ h => h))
           have Hb2 := Lib.hid hb2
           clear hk2 hb2
           (try simp only [PU]))
        | (go_at_call 38; go_must (refine (H38.out w2 HK2.out).mono ?_; rintro e w3 ⟨rfl, hk3⟩)
           clear v0 v1 v2 v3 v4 v5
           have HK3 := Lib.hid (HK2.out.trans hk3 (fun _ _ h => h))
           have Hb3 := Lib.hid (hk3.blk Hb2.out id)
           clear hk3
           (try simp only [PU]))
        | ((with_reducible refine at_dst (N := 14) rfl ?_); go_must (refine ev_box (cs := #[.pointer none, .slice none 0 0]) rfl rfl rfl ?_; intro g4 w4 hg4 hl4 hb4 hk4)
           have hb5 := hk4.blk Hb3.out id
           have v0 := (blk_cell hb5 0).trans rfl
           have v1 := (blk_cell hb5 1).trans rfl
           have v2 := (blk_cell hb5 2).trans rfl
           have v3 := (blk_cell hb5 3).trans rfl
           have v4 := (blk_cell hb5 4).trans rfl
           have v5 := (blk_cell hb5 5).trans rfl
           have HK4 := Lib.hid (HK3.out.trans hk4 (fun _ _ h => h))
           have Hb4 := Lib.hid (show Bld w4 g4 W.heap.size (.slice none 0 0) [] from ⟨⟨_, hb4, .inl rfl⟩, .inl ⟨rfl, rfl⟩⟩)
           have Hg4 := Lib.hid (show W.heap.size ≤ g4 by have := HK3.out.size; omega)
           clear hk4 hb4 hb5
           (try simp only [PU]))
        | (go_at_call 39; go_must (refine (H39.out w4 HK4.out g4 Hb4.out Hg4.out rfl (by have := Hlen.out rfl; have := Hs.out; simp only [List.length_nil]; omega)).mono ?_; rintro e w5 ⟨x5, v9, rfl, hb5, hw5⟩)
           rw [List.nil_append] at hb5
           have HB5 := Lib.hid hb5
           have HK5 := Lib.hid (show Keeps Nob W w5 from HK4.out.trans hw5.keep (fun q hq e => e.elim (fun e => by have := Hg4.out; omega) (fun e => by cases e)))
           clear v0 v1 v2 v3 v4 v5
           clear hb5 hw5
           (try simp only [PU]))
        | (go_at_call 40; go_must (refine (bldLen HB5.out).mono ?_; rintro e w6 ⟨rfl, rfl⟩); rw [Htl.out]; (try simp only [PU]))
        | (go_at_call 41; go_must (refine (bldString HB5.out Hne.out).mono ?_; rintro e w6 ⟨rfl, hk6⟩); have HK6 := Lib.hid (show Keeps Nob W w6 from HK5.out.trans hk6 (fun q hq e => by have := (HB5.out.own.lt q e.symm).1; omega)); clear hk6; (try simp only [PU]))
       )
       go_ret2
       refine ⟨?_, HK6.out⟩
       rw [← HR.out]
       unfold writeJ
       rw [if_neg (by rw [Hfm.out]; decide), if_neg (by rw [Hlv.out, Htl.out]; omega)]
       rfl
set_option maxHeartbeats 1000000 in
theorem check16 {W : World} {X : Nat → Prop} {v : Value} {j : J} (h : JX W X v j) (ht : Tab W W.heap.size) (hs : sizeJ j ≤ 10000000000) : Calls Tryd.prog 16 #[v] W fun e w' => e = .returned (.int .i64 (checkJ j)) ∧ Keeps Nob W w' := by
 obtain ⟨k, b, n, t, ks, vs, kv, vv, hj, rfl, hkv, hvv⟩ := h.open
 obtain ⟨kA, kc, rfl, -, -⟩ := id hkv
 obtain ⟨vA, vc, u, rfl, -, -, -⟩ := id hvv
 have H15 := Lib.hid (fun W' (hk : Keeps Nob W W') => write15 (h.after hk) (Tab.up (ht.keep hk.any) hk.size) hs)
 rw [← writeJ_check]
 generalize writeJ j = R at *
 obtain ⟨R1, R2⟩ := R
 generalize ks.length = nk at *
 generalize vs.length = nv at *
 clear h hkv hvv ht hs hj
 go_enter Tryd.func16, Tryd.ntmps16
 go_wp2_with (first
  | ((with_reducible refine at_dst (N := 1) rfl ?_); go_must (refine ev_box (cs := #[.int .i64 k, .bool b, .int .i64 n, .string t, .slice kA nk kc, .slice vA nv vc]) rfl rfl rfl ?_; intro g1 w1 hg1 hl1 hb1 hk1)
     have v0 := (blk_cell hb1 0).trans rfl
     have v1 := (blk_cell hb1 1).trans rfl
     have v2 := (blk_cell hb1 2).trans rfl
     have v3 := (blk_cell hb1 3).trans rfl
     have v4 := (blk_cell hb1 4).trans rfl
     have v5 := (blk_cell hb1 5).trans rfl
     have HK1 := Lib.hid hk1
     clear hb1 hk1
     (try simp only [PU]))
  | (go_at_call 15; go_must (refine (H15.out w1 HK1.out).mono ?_; rintro e w2 ⟨rfl, hk2⟩); have HK2 := Lib.hid (HK1.out.trans hk2 (fun _ _ h => h)); clear hk2; (try simp only [PU]))
 )
 go_ret
 exact ⟨rfl, HK2.out⟩
end Go.Proofs.WV
