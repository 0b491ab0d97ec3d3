/-
  Maps that are keyed by integers, whatever their elements: mlook-up, store, delete, as operations on a list of entries. No condition.
-/
import Derived.Test.YtohpkolkagddiaaDoorK1
namespace Go.Proofs.KL
open Go.RowKit

def keyInt (e : MapEntry) : Int := match e.key with | .int _ a => a | _ => 0
structure IntKeyed (es : List MapEntry) : Prop where
  keys : ∀ e ∈ es, ∃ q, e.key = .int .i64 q
  nodup : (es.map keyInt).Nodup
def mlookAt (q : Int) : List MapEntry → Nat → Option (Nat × Value)
  | [], _ => none
  | e :: r, i => if keyInt e = q then some (i, e.val) else mlookAt q r (i + 1)
def mlook (es : List MapEntry) (q : Int) : Option Value := (mlookAt q es 0).map (·.2)
theorem mlookAt_shift (q : Int) : ∀ (es : List MapEntry) (i : Nat), mlookAt q es i = (mlookAt q es 0).map fun x => (x.1 + i, x.2)
  | [], _ => rfl
  | e :: r, i => by
    unfold mlookAt
    split
    · simp
    · rw [mlookAt_shift q r (i + 1), mlookAt_shift q r (0 + 1)]
      cases mlookAt q r 0 <;> simp; omega
theorem mlook_cons (e : MapEntry) (r : List MapEntry) (q : Int) : mlook (e :: r) q = if keyInt e = q then some e.val else mlook r q := by
  unfold mlook
  rw [mlookAt]
  split
  · rfl
  · rw [mlookAt_shift]; cases mlookAt q r 0 <;> rfl
theorem mlook_nil (q : Int) : mlook [] q = none := rfl
theorem findNow_int {kk : IntKind} (q : Int) : ∀ (es : List MapEntry) (i : Nat), (∀ e ∈ es, ∃ q, e.key = .int .i64 q) → Instr.findNow (.int kk) (.int .i64 q) es i = some (mlookAt q es i)
  | [], _, _ => rfl
  | e :: r, i, h => by
    obtain ⟨k, hk⟩ := h e List.mem_cons_self
    have ih := findNow_int (kk := kk) q r (i + 1) (fun x hx => h x (List.mem_cons_of_mem _ hx))
    unfold Instr.findNow mlookAt
    have hki : keyInt e = k := by unfold keyInt; rw [hk]
    rw [hk, hki]
    by_cases hq : k = q
    · subst hq; simp [Instr.sameNow]
    · have : (q == k) = false := by simpa using fun h => hq h.symm
      simp only [Instr.sameNow, if_true, this, if_neg hq]
      exact ih
theorem mlook_isSome_mem {es : List MapEntry} {q : Int} : (mlook es q).isSome = true ↔ q ∈ es.map keyInt := by
  induction es with
  | nil => simp [mlook_nil]
  | cons e r ih =>
    rw [mlook_cons]
    by_cases h : keyInt e = q
    · simp [h]
    · simp only [if_neg h, ih, List.map_cons, List.mem_cons]
      constructor
      · exact .inr
      · rintro (h' | h')
        · exact absurd h'.symm h
        · exact h'
theorem mlook_none {es : List MapEntry} {q : Int} (h : q ∉ es.map keyInt) : mlook es q = none := by
  cases hl : mlook es q with
  | none => rfl
  | some v => exact absurd (mlook_isSome_mem.1 (by rw [hl]; rfl)) h
theorem mlook_append_one (es : List MapEntry) (e : MapEntry) (q : Int) : mlook (es ++ [e]) q = (mlook es q).or (if keyInt e = q then some e.val else none) := by
  induction es with
  | nil => rw [List.nil_append, mlook_cons, mlook_nil]; simp
  | cons x r ih =>
    rw [List.cons_append, mlook_cons, mlook_cons, ih]
    by_cases h : keyInt x = q
    · simp [h]
    · simp [h]
theorem mlookAt_none {es : List MapEntry} {q : Int} {i : Nat} (h : mlookAt q es i = none) : mlook es q = none := by
  unfold mlook; rw [mlookAt_shift] at h
  cases hl : mlookAt q es 0 with
  | none => rfl
  | some x => rw [hl] at h; cases h
/-- The place of a key that is there. -/
theorem mlookAt_some : ∀ {es : List MapEntry} {q : Int} {i j : Nat} {v : Value}, mlookAt q es i = some (j, v) → ∃ k e, j = i + k ∧ es[k]? = some e ∧ keyInt e = q ∧ e.val = v
  | e :: r, q, i, j, v, h => by
    unfold mlookAt at h
    split at h
    · rename_i hk
      injection h with h; injection h with h1 h2
      exact ⟨0, e, by omega, rfl, hk, h2⟩
    · obtain ⟨k, x, hj, hx, hk, hv⟩ := mlookAt_some h
      exact ⟨k + 1, x, by omega, by simpa using hx, hk, hv⟩
theorem mlook_set : ∀ {es : List MapEntry} {k : Nat} {e e' : MapEntry} {q : Int}, es[k]? = some e → keyInt e = q → keyInt e' = q → (es.map keyInt).Nodup → ∀ q', mlook (es.set k e') q' = if q' = q then some e'.val else mlook es q'
  | x :: r, 0, e, e', q, he, hk, hk', _, q' => by
    simp at he; subst he
    rw [List.set_cons_zero, mlook_cons, mlook_cons, hk, hk']
    by_cases h : q = q'
    · simp [h]
    · rw [if_neg h, if_neg (fun h' : q' = q => h h'.symm), if_neg h]
  | x :: r, k + 1, e, e', q, he, hk, hk', hn, q' => by
    simp at he
    have ih := mlook_set he hk hk' (List.nodup_cons.1 (by rw [List.map_cons] at hn; exact hn)).2 q'
    rw [List.set_cons_succ, mlook_cons, mlook_cons, ih]
    by_cases h : keyInt x = q'
    · have hx : keyInt x ≠ q := by
        intro hxq
        have hmem : keyInt e ∈ r.map keyInt := List.mem_map_of_mem (List.mem_of_getElem? he)
        have := (List.nodup_cons.1 (by rw [List.map_cons] at hn; exact hn)).1
        rw [hxq, ← hk] at this
        exact this (by simpa using hmem)
      rw [if_pos h, if_pos h, if_neg (by rw [← h]; exact hx)]
    · rw [if_neg h, if_neg h]
theorem map_set_keys {es : List MapEntry} {k : Nat} {e e' : MapEntry} (he : es[k]? = some e) (hk : keyInt e' = keyInt e) : (es.set k e').map keyInt = es.map keyInt := by
  rw [List.map_set, hk]
  apply List.ext_getElem?
  intro i
  rw [List.getElem?_set]
  split
  · rename_i h; subst h
    have hlt : k < es.length := (List.getElem?_eq_some_iff.1 he).1
    have := (List.getElem?_eq_some_iff.1 he).2
    simp [hlt, this]
  · rfl
theorem IntKeyed.set {es : List MapEntry} (h : IntKeyed es) {k : Nat} {e e' : MapEntry} (he : es[k]? = some e) (hk : ∃ q, e'.key = .int .i64 q) (hk' : keyInt e' = keyInt e) : IntKeyed (es.set k e') :=
  ⟨fun x hx => by
    rcases List.mem_or_eq_of_mem_set hx with hx | rfl
    · exact h.keys x hx
    · exact hk, by rw [map_set_keys he hk']; exact h.nodup⟩
theorem IntKeyed.push {es : List MapEntry} (h : IntKeyed es) {e : MapEntry} {q : Int} (hk : e.key = .int .i64 q) (hq : mlook es q = none) : IntKeyed (es ++ [e]) :=
  ⟨fun x hx => by
    rcases List.mem_append.1 hx with hx | hx
    · exact h.keys x hx
    · rw [List.mem_singleton.1 hx]; exact ⟨q, hk⟩, by
    rw [List.map_append, List.nodup_append]
    refine ⟨h.nodup, by simp, fun a ha b hb => ?_⟩
    have hb' : b = q := by simpa [keyInt, hk] using hb
    rintro rfl
    subst hb'
    have := mlook_isSome_mem.2 ha
    rw [hq] at this; cases this⟩
theorem map_erase {α β : Type} (f : α → β) : ∀ (l : List α) (k : Nat), (l.eraseIdx k).map f = (l.map f).eraseIdx k
  | [], _ => rfl
  | _ :: _, 0 => rfl
  | _ :: r, k + 1 => by simp [map_erase f r k]
theorem IntKeyed.erase {es : List MapEntry} (h : IntKeyed es) (k : Nat) : IntKeyed (es.eraseIdx k) :=
  ⟨fun x hx => h.keys x (List.mem_of_mem_eraseIdx hx), by
    have : (es.eraseIdx k).map keyInt = (es.map keyInt).eraseIdx k := map_erase keyInt es k
    rw [this]; exact h.nodup.sublist (List.eraseIdx_sublist _ _)⟩
theorem mlook_erase : ∀ {es : List MapEntry} {k : Nat} {e : MapEntry} {q : Int}, es[k]? = some e → keyInt e = q → (es.map keyInt).Nodup → ∀ q', mlook (es.eraseIdx k) q' = if q' = q then none else mlook es q'
  | x :: r, 0, e, q, he, hk, hn, q' => by
    simp at he; subst he
    rw [List.eraseIdx_cons_zero, mlook_cons, hk]
    by_cases h : q' = q
    · subst h
      rw [if_pos rfl]
      apply mlook_none
      have := (List.nodup_cons.1 (by rw [List.map_cons] at hn; exact hn)).1
      rw [hk] at this; simpa using this
    · rw [if_neg h, if_neg (fun h' => h h'.symm)]
  | x :: r, k + 1, e, q, he, hk, hn, q' => by
    simp at he
    have ih := mlook_erase he hk (List.nodup_cons.1 (by rw [List.map_cons] at hn; exact hn)).2 q'
    rw [List.eraseIdx_cons_succ, mlook_cons, mlook_cons, ih]
    by_cases h : keyInt x = q'
    · have hx : keyInt x ≠ q := by
        intro hxq
        have hmem : keyInt e ∈ r.map keyInt := List.mem_map_of_mem (List.mem_of_getElem? he)
        have := (List.nodup_cons.1 (by rw [List.map_cons] at hn; exact hn)).1
        rw [hxq, ← hk] at this
        exact this (by simpa using hmem)
      rw [if_pos h, if_pos h, if_neg (by rw [← h]; exact hx)]
    · rw [if_neg h, if_neg h]

theorem modify_set {α : Type} (f : α → α) : ∀ {l : List α} {k : Nat} {e : α}, l[k]? = some e → l.modify k f = l.set k (f e)
  | x :: r, 0, e, h => by simp at h; subst h; rfl
  | x :: r, k + 1, e, h => by simp at h; simp [modify_set f h]
section
variable {P : Program} {W : World} {t K E : TypeId} {kk : IntKind} {m : Nat} {es : Array MapEntry} {c : Nat}
theorem run_checkKey_int (hk : P.underlying K = some (.int kk)) (b : Bool) (q : Int) : (Instr.checkKey b 10000 K (.int .i64 q)).run P W = .ok () W := by
  unfold Instr.checkKey
  simp [run_underlying hk]
theorem run_getObj_map (hb : W.heap[m]? = some (.map es c)) : (getObj m).run P W = .ok (.map es c) W := by
  simp [getObj, Sem.run, hb]
theorem run_findKey_int (hk : P.underlying K = some (.int kk)) (hkey : IntKeyed es.toList) (q : Int) : (Instr.findKey K (.int .i64 q) es.toList).run P W = .ok (mlookAt q es.toList 0) W := by
  unfold Instr.findKey
  simp [run_underlying hk, findNow_int q es.toList 0 hkey.keys]
theorem run_lookup_int2 (ht : P.underlying t = some (.map K E)) (hk : P.underlying K = some (.int kk)) {i : TypeInfo} {z : Value} (hi : P.info? E = some i) (hz : i.zero = some z)
    (hb : W.heap[m]? = some (.map es c)) (hkey : IntKeyed es.toList) (q : Int) (ok : Bool) :
    (Instr.lookup t (.map (some m)) (.int .i64 q) ok).run P W = .ok (if ok then .tuple #[(mlook es.toList q).getD z, .bool (mlook es.toList q).isSome] else (mlook es.toList q).getD z) W := by
  unfold Instr.lookup
  simp only [run_underlying ht, Sem.run_bind, Result.andThen_ok]
  simp only [run_getObj_map hb, Sem.run_bind, Result.andThen_ok, Sem.run_pure, run_checkKey_int hk, run_findKey_int hk hkey]
  unfold mlook
  cases hl : mlookAt q es.toList 0 with
  | none => simp [zeroValue, typeInfo, hi, hz]
  | some x => obtain ⟨j, v⟩ := x; simp
theorem run_mapUpdate_int2 (ht : P.underlying t = some (.map K E)) (hk : P.underlying K = some (.int kk)) (hb : W.heap[m]? = some (.map es c)) (hkey : IntKeyed es.toList) (q : Int) (v : Value) :
    ∃ es' : Array MapEntry, ∃ c', (Instr.mapUpdate t (.map (some m)) (.int .i64 q) v).run P W = .ok () { W with heap := W.heap.setIfInBounds m (.map es' c') } ∧
      IntKeyed es'.toList ∧ ∀ q', mlook es'.toList q' = if q' = q then some v else mlook es.toList q' := by
  have hset : ∀ (o : Obj), (setObj m o).run P W = .ok () { W with heap := W.heap.setIfInBounds m o } := fun o => by simp [setObj, Sem.run, hb]
  cases hl : mlookAt q es.toList 0 with
  | none =>
    refine ⟨es.push { key := .int .i64 q, val := v, born := c }, c + 1, ?_, ?_, fun q' => ?_⟩
    · unfold Instr.mapUpdate
      simp only [run_underlying ht, Sem.run_bind, Result.andThen_ok]
      simp only [run_getObj_map hb, Sem.run_bind, Result.andThen_ok, run_checkKey_int hk, run_findKey_int hk hkey, hl, hset]
    · rw [Array.toList_push]; exact hkey.push rfl (mlookAt_none hl)
    · rw [Array.toList_push, mlook_append_one]
      have h0 := mlookAt_none hl
      by_cases h : q' = q
      · subst h; rw [h0]; simp [keyInt]
      · rw [if_neg h, if_neg (by simpa [keyInt] using fun h' => h h'.symm)]; simp
  | some x =>
    obtain ⟨j, u⟩ := x
    obtain ⟨k, e, hj, he, hke, hv⟩ := mlookAt_some hl
    obtain rfl : k = j := by omega
    have he' : es[k]? = some e := by simpa using he
    have hkk : e.key = .int .i64 q := by
      obtain ⟨q0, h0⟩ := hkey.keys e (List.mem_of_getElem? he)
      rw [h0]; simp [keyInt, h0] at hke; rw [hke]
    refine ⟨es.modify k fun e => { e with key := .int .i64 q, val := v }, c, ?_, ?_, fun q' => ?_⟩
    · unfold Instr.mapUpdate
      simp only [run_underlying ht, Sem.run_bind, Result.andThen_ok]
      simp only [run_getObj_map hb, Sem.run_bind, Result.andThen_ok, run_checkKey_int hk, run_findKey_int hk hkey, hl, he', Option.map_some, Option.getD_some, hkk]
      simp only [Instr.keyThatStays, Instr.sameBits]
      simp [hset]
    · have hm : (es.modify k fun e => { e with key := .int .i64 q, val := v }).toList = es.toList.set k { e with key := .int .i64 q, val := v } := by
        rw [Array.toList_modify]; exact modify_set _ he
      rw [hm]
      exact hkey.set he ⟨q, rfl⟩ (by rw [hke]; rfl)
    · have hm : (es.modify k fun e => { e with key := .int .i64 q, val := v }).toList = es.toList.set k { e with key := .int .i64 q, val := v } := by
        rw [Array.toList_modify]; exact modify_set _ he
      rw [hm]
      exact mlook_set he hke rfl hkey.nodup q'
theorem run_delete_int2 (ht : P.underlying t = some (.map K E)) (hk : P.underlying K = some (.int kk)) (hb : W.heap[m]? = some (.map es c)) (hkey : IntKeyed es.toList) (q : Int) (ty tk : TypeId) :
    ∃ es' : Array MapEntry, ∃ c', (Builtin.delete_ #[t, tk] ty #[.map (some m), .int .i64 q]).run P W = .ok (.tuple #[]) { W with heap := W.heap.setIfInBounds m (.map es' c') } ∧
      IntKeyed es'.toList ∧ ∀ q', mlook es'.toList q' = if q' = q then none else mlook es.toList q' := by
  have hset : ∀ (o : Obj), (setObj m o).run P W = .ok () { W with heap := W.heap.setIfInBounds m o } := fun o => by simp [setObj, Sem.run, hb]
  cases hl : mlookAt q es.toList 0 with
  | none =>
    refine ⟨es, c, ?_, hkey, fun q' => ?_⟩
    · unfold Builtin.delete_
      simp only [List.getElem?_toArray, List.getElem?_cons_zero, List.getElem?_cons_succ, run_underlying ht, Sem.run_bind, Result.andThen_ok]
      simp only [run_getObj_map hb, Sem.run_bind, Result.andThen_ok, run_checkKey_int hk, run_findKey_int hk hkey, hl, hset, Sem.run_pure]
    · by_cases h : q' = q
      · subst h; rw [if_pos rfl]; exact mlookAt_none hl
      · rw [if_neg h]
  | some x =>
    obtain ⟨j, u⟩ := x
    obtain ⟨k, e, hj, he, hke, hv⟩ := mlookAt_some hl
    obtain rfl : k = j := by omega
    have hlt : k < es.size := by simpa using (List.getElem?_eq_some_iff.1 he).1
    have hm : (es.eraseIdxIfInBounds k).toList = es.toList.eraseIdx k := by
      rw [Array.eraseIdxIfInBounds_eq, dif_pos hlt, Array.toList_eraseIdx]
    refine ⟨es.eraseIdxIfInBounds k, c, ?_, by rw [hm]; exact hkey.erase k, fun q' => by rw [hm]; exact mlook_erase he hke hkey.nodup q'⟩
    unfold Builtin.delete_
    simp only [List.getElem?_toArray, List.getElem?_cons_zero, List.getElem?_cons_succ, run_underlying ht, Sem.run_bind, Result.andThen_ok]
    simp only [run_getObj_map hb, Sem.run_bind, Result.andThen_ok, run_checkKey_int hk, run_findKey_int hk hkey, hl, hset, Sem.run_pure]
end
end Go.Proofs.KL
