import Derived.Test.YtpkaepmmkojdaaaBase
import Derived.Maps.RangeWalk
import Derived.RangeFuncRecord
/-! Maps entry by entry, at whatever kind of key: look-up, store, delete, clear, and going through one. No program is named here. -/
namespace Go.Proofs.Ytpkaepmmkojdaaa
open Go.RowKit

structure Ent (K : Type) where
  k : K
  v : Value
  born : Nat

variable {K : Type} {P : Program} {T : TypeId} {enc : K → Value}

def Ent.raw (enc : K → Value) (e : Ent K) : MapEntry := { key := enc e.k, val := e.v, born := e.born }

structure MapAt (w : World) (b : Nat) (enc : K → Value) (es : List (Ent K)) (clock : Nat) : Prop where
  heap : w.heap[b]? = some (.map (es.map (Ent.raw enc)).toArray clock)
  keys : (es.map (·.k)).Nodup
  born : ∀ e ∈ es, e.born < clock
  borns : (es.map (·.born)).Nodup

theorem MapAt.lt {w : World} {b : Nat} {es : List (Ent K)} {clock : Nat} (h : MapAt w b enc es clock) : b < w.heap.size := (Array.getElem?_eq_some_iff.1 h.heap).1
theorem MapAt.of_heap {w w' : World} {b : Nat} {es : List (Ent K)} {clock : Nat} (h : MapAt w b enc es clock) (he : w'.heap[b]? = w.heap[b]?) : MapAt w' b enc es clock :=
  ⟨he.trans h.heap, h.keys, h.born, h.borns⟩
theorem MapAt.ext {fp : Nat → Prop} {w w' : World} {b : Nat} {es : List (Ent K)} {clock : Nat} (h : MapAt w b enc es clock) (he : Ext fp w w') (hn : ¬ fp b) : MapAt w' b enc es clock := h.of_heap (he.block b h.lt hn)
theorem MapAt.keep {w w' : World} {b : Nat} {es : List (Ent K)} {clock : Nat} (h : MapAt w b enc es clock) (hb : Below w.heap.size w w') : MapAt w' b enc es clock := h.of_heap (hb.block b h.lt)
theorem MapAt.new (w : World) (enc : K → Value) : MapAt (w.alloc (.map #[] 0)) w.heap.size enc ([] : List (Ent K)) 0 :=
  ⟨by show (w.heap.push _)[w.heap.size]? = _; simp, List.nodup_nil, fun e he => by simp at he, List.nodup_nil⟩

variable [DecidableEq K]

def mfind (k : K) : List (Ent K) → Nat → Option (Nat × Value)
  | [], _ => none
  | e :: es, i => if k = e.k then some (i, e.v) else mfind k es (i + 1)
def mget (es : List (Ent K)) (k : K) : Option Value := (es.find? (fun e => decide (k = e.k))).map (·.v)
def mhas (es : List (Ent K)) (k : K) : Bool := es.any (fun e => decide (k = e.k))
def mput (es : List (Ent K)) (k : K) (v : Value) (clock : Nat) : List (Ent K) :=
  if mhas es k then es.map (fun e => if k = e.k then { e with v := v } else e) else es ++ [⟨k, v, clock⟩]
def mclock (es : List (Ent K)) (k : K) (clock : Nat) : Nat := if mhas es k then clock else clock + 1
def mdel (es : List (Ent K)) (k : K) : List (Ent K) := es.filter (fun e => !decide (k = e.k))

/-- What a type of keys must bear. -/
structure KeyLaw (P : Program) (T : TypeId) (enc : K → Value) : Prop where
  check : ∀ em k w, (Instr.checkKey em 10000 T (enc k)).run P w = .ok () w
  find : ∀ k es w, (Instr.findKey T (enc k) (es.map (Ent.raw enc))).run P w = .ok (mfind k es 0) w
  same : ∀ k, Instr.sameBits 10000 (enc k) (enc k) = true

theorem mfind_none {k : K} : ∀ {es : List (Ent K)} {i : Nat}, mhas es k = false → mfind k es i = none
  | [], _, _ => rfl
  | e :: es, i, h => by
    simp only [mhas, List.any_cons, Bool.or_eq_false_iff, decide_eq_false_iff_not] at h
    rw [mfind, if_neg h.1]
    exact mfind_none h.2
theorem mget_none {k : K} : ∀ {es : List (Ent K)}, mhas es k = false → mget es k = none := by
  intro es h
  unfold mget mhas at *
  rw [List.find?_eq_none.2]
  · rfl
  · intro x hx
    simp only [List.any_eq_false] at h
    exact h x hx
theorem mfind_some {k : K} : ∀ {es : List (Ent K)} (i : Nat), mhas es k = true → ∃ j v, mfind k es i = some (i + j, v) ∧ mget es k = some v ∧ ∃ e, es[j]? = some e ∧ e.k = k ∧ e.v = v
  | [], _, h => by simp [mhas] at h
  | e :: es, i, h => by
    by_cases hk : k = e.k
    · exact ⟨0, e.v, by rw [mfind, if_pos hk]; rfl, by simp [mget, hk], e, rfl, hk.symm, rfl⟩
    · have h' : mhas es k = true := by simpa [mhas, hk] using h
      obtain ⟨j, v, h1, h2, e', h3, h4, h5⟩ := mfind_some (i + 1) h'
      refine ⟨j + 1, v, by rw [mfind, if_neg hk, h1]; congr 2; omega, ?_, e', by simpa using h3, h4, h5⟩
      unfold mget at *
      rw [List.find?_cons_of_neg (by simpa using hk)]
      exact h2

theorem run_lookup_raw (L : KeyLaw P T enc) {w : World} {b : Nat} {es : List (Ent K)} {clock : Nat} (h : MapAt w b enc es clock) {M E : TypeId} (hM : P.underlying M = some (.map T E)) (k : K)
    {z : Value} (hz : ∀ w, (zeroValue E).run P w = .ok z w) (ok : Bool) :
    (Instr.lookup M (.map (some b)) (enc k) ok).run P w = .ok (if ok then .tuple #[(mget es k).getD z, .bool (mhas es k)] else (mget es k).getD z) w := by
  have hf := L.find k es w
  cases hh : mhas es k
  · rw [mfind_none hh] at hf
    rw [mget_none hh]
    cases ok <;> simp [Instr.lookup, run_underlying hM, MapKept.run_getObj_map h.heap, L.check _ k w, hf, hz w, Result.andThen]
  · obtain ⟨j, v, h1, h2, _⟩ := mfind_some 0 hh
    rw [h1] at hf
    rw [h2]
    cases ok <;> simp [Instr.lookup, run_underlying hM, MapKept.run_getObj_map h.heap, L.check _ k w, hf, Result.andThen]

theorem modify_key {k : K} {v : Value} {es : List (Ent K)} (hn : (es.map (·.k)).Nodup) {j : Nat} {e : Ent K} (hj : es[j]? = some e) (hk : e.k = k) (f : MapEntry → MapEntry) (hf : f (e.raw enc) = ({ e with v := v } : Ent K).raw enc) :
    (es.map (Ent.raw enc)).toArray.modify j f = ((es.map (fun e => if k = e.k then { e with v := v } else e)).map (Ent.raw enc)).toArray := by
  apply Array.ext_getElem?
  intro i
  rw [Array.getElem?_modify]
  simp only [List.getElem?_toArray, List.getElem?_map]
  by_cases hij : j = i
  · subst hij
    simp [hj, hk, hf]
  · rw [if_neg hij]
    cases hi : es[i]? with
    | none => rfl
    | some e' =>
      have hne : k ≠ e'.k := by
        intro heq
        apply hij
        have h1 : (es.map (·.k))[j]? = some k := by simp [hj, hk]
        have h2 : (es.map (·.k))[i]? = some k := by simp [hi, heq]
        exact (List.getElem?_inj (by simpa using (List.getElem?_eq_some_iff.1 hj).1) hn).1 (h1.trans h2.symm)
      simp [hne]

theorem mput_keys {es : List (Ent K)} (hn : (es.map (·.k)).Nodup) (k : K) (v : Value) (clock : Nat) : ((mput es k v clock).map (·.k)).Nodup := by
  unfold mput
  split
  · have : (es.map (fun e => if k = e.k then { e with v := v } else e)).map (·.k) = es.map (·.k) := by
      rw [List.map_map]
      apply List.map_congr_left
      intro e _
      simp only [Function.comp]
      split <;> rfl
    rw [this]; exact hn
  · rename_i hh
    rw [List.map_append, List.nodup_append]
    refine ⟨hn, by simp, ?_⟩
    intro a ha b hb
    simp only [List.map_cons, List.map_nil, List.mem_singleton] at hb
    subst hb
    intro heq
    apply hh
    obtain ⟨e, he, rfl⟩ := List.mem_map.1 ha
    exact List.any_eq_true.2 ⟨e, he, by simp [heq]⟩
theorem mput_born {es : List (Ent K)} {clock : Nat} (hn : ∀ e ∈ es, e.born < clock) (k : K) (v : Value) : ∀ e ∈ mput es k v clock, e.born < mclock es k clock := by
  unfold mput mclock
  split
  · intro e he
    obtain ⟨e', he', rfl⟩ := List.mem_map.1 he
    have := hn e' he'
    split <;> exact this
  · intro e he
    rw [List.mem_append] at he
    rcases he with he | he
    · have := hn e he; omega
    · simp at he; subst he; simp
theorem mput_borns {es : List (Ent K)} {clock : Nat} (hn : ∀ e ∈ es, e.born < clock) (hd : (es.map (·.born)).Nodup) (k : K) (v : Value) : ((mput es k v clock).map (·.born)).Nodup := by
  unfold mput
  split
  · have : (es.map (fun e => if k = e.k then { e with v := v } else e)).map (·.born) = es.map (·.born) := by
      rw [List.map_map]
      apply List.map_congr_left
      intro e _
      simp only [Function.comp]
      split <;> rfl
    rw [this]; exact hd
  · rw [List.map_append, List.nodup_append]
    refine ⟨hd, by simp, ?_⟩
    intro a ha b hb
    simp only [List.map_cons, List.map_nil, List.mem_singleton] at hb
    subst hb
    obtain ⟨e, he, rfl⟩ := List.mem_map.1 ha
    have := hn e he
    omega

/-- A map's block written anew. -/
theorem run_setObj_put {w : World} {b : Nat} {es : Array MapEntry} {clock : Nat} (o : Obj) (h : w.heap[b]? = some (.map es clock)) : (setObj b o).run P w = .ok () (w.putObj b o) := MapKept.run_setObj_map o h
theorem ext_putObj (w : World) (b : Nat) (o : Obj) : Ext (fun k => k = b) w (w.putObj b o) := ⟨rfl, rfl, rfl, by simp, fun _ _ hk => World.putObj_heap_other hk⟩

theorem run_update_raw (L : KeyLaw P T enc) {w : World} {b : Nat} {es : List (Ent K)} {clock : Nat} (h : MapAt w b enc es clock) {M E : TypeId} (hM : P.underlying M = some (.map T E)) (k : K) (v : Value) :
    ∃ w', (Instr.mapUpdate M (.map (some b)) (enc k) v).run P w = .ok () w' ∧ MapAt w' b enc (mput es k v clock) (mclock es k clock) ∧ Ext (fun x => x = b) w w' := by
  have hf := L.find k es w
  refine ⟨w.putObj b (.map ((mput es k v clock).map (Ent.raw enc)).toArray (mclock es k clock)), ?_, ⟨World.putObj_heap_same h.lt, mput_keys h.keys k v clock, mput_born h.born k v, mput_borns h.born h.borns k v⟩, ext_putObj _ _ _⟩
  cases hh : mhas es k
  · rw [mfind_none hh] at hf
    have e1 : mput es k v clock = es ++ [⟨k, v, clock⟩] := by simp [mput, hh]
    have e2 : mclock es k clock = clock + 1 := by simp [mclock, hh]
    rw [e1, e2]
    simp [Instr.mapUpdate, run_underlying hM, MapKept.run_getObj_map h.heap, L.check _ k w, hf, Result.andThen, run_setObj_put _ h.heap, Ent.raw]
  · obtain ⟨j, v', h1, h2, e, h3, h4, h5⟩ := mfind_some 0 hh
    rw [h1] at hf
    have e1 : mput es k v clock = es.map (fun e => if k = e.k then { e with v := v } else e) := by simp [mput, hh]
    have e2 : mclock es k clock = clock := by simp [mclock, hh]
    rw [e1, e2]
    have hks : (Instr.keyThatStays (enc k) (enc k)).run P w = .ok (enc k) w := by simp [Instr.keyThatStays, L.same k]
    have hm := modify_key (enc := enc) (v := v) h.keys h3 h4 (fun e => { e with key := enc k, val := v }) (by simp [Ent.raw, h4])
    simp only [Nat.zero_add] at hf
    simp [Instr.mapUpdate, run_underlying hM, MapKept.run_getObj_map h.heap, L.check _ k w, hf, Result.andThen, run_setObj_put _ h.heap, h3, Ent.raw, h4, hks] at hm ⊢
    rw [hm]

theorem mdel_erase {es : List (Ent K)} (hn : (es.map (·.k)).Nodup) {k : K} {j : Nat} {e : Ent K} (hj : es[j]? = some e) (hk : e.k = k) : es.eraseIdx j = mdel es k := by
  induction es generalizing j with
  | nil => simp at hj
  | cons a es ih =>
    simp only [List.map_cons, List.nodup_cons] at hn
    cases j with
    | zero =>
      simp at hj
      subst hj
      subst hk
      simp only [List.eraseIdx_cons_zero, mdel]
      rw [List.filter_cons_of_neg (by simp)]
      symm
      rw [List.filter_eq_self]
      intro x hx
      simp only [Bool.not_eq_eq_eq_not, Bool.not_true, decide_eq_false_iff_not]
      intro heq
      exact hn.1 (heq ▸ List.mem_map_of_mem (f := (·.k)) hx)
    | succ j =>
      simp at hj
      have hne : ¬ k = a.k := by
        intro heq
        apply hn.1
        rw [← heq, ← hk]
        exact List.mem_map_of_mem (f := (·.k)) (List.mem_of_getElem? hj)
      rw [List.eraseIdx_cons_succ, ih hn.2 hj, mdel, mdel, List.filter_cons_of_pos (by simpa using hne)]
theorem mdel_none {es : List (Ent K)} {k : K} (h : mhas es k = false) : mdel es k = es := by
  unfold mdel
  rw [List.filter_eq_self]
  intro x hx
  simp only [mhas, List.any_eq_false] at h
  simpa using h x hx

theorem run_delete_raw (L : KeyLaw P T enc) {w : World} {b : Nat} {es : List (Ent K)} {clock : Nat} (h : MapAt w b enc es clock) {M E X ty : TypeId} (hM : P.underlying M = some (.map T E)) (k : K) :
    ∃ w', (Builtin.delete_ #[M, X] ty #[.map (some b), enc k]).run P w = .ok (.tuple #[]) w' ∧ MapAt w' b enc (mdel es k) clock ∧ Ext (fun x => x = b) w w' := by
  have hf := L.find k es w
  refine ⟨w.putObj b (.map ((mdel es k).map (Ent.raw enc)).toArray clock), ?_, ⟨World.putObj_heap_same h.lt, ?_, ?_, ?_⟩, ext_putObj _ _ _⟩
  · cases hh : mhas es k
    · rw [mfind_none hh] at hf
      rw [mdel_none hh]
      simp [Builtin.delete_, run_underlying hM, MapKept.run_getObj_map h.heap, L.check _ k w, hf, Result.andThen, run_setObj_put _ h.heap]
    · obtain ⟨j, v', h1, h2, e, h3, h4, h5⟩ := mfind_some 0 hh
      rw [h1] at hf
      simp only [Nat.zero_add] at hf
      have hlt : j < es.length := (List.getElem?_eq_some_iff.1 h3).1
      simp [Builtin.delete_, run_underlying hM, MapKept.run_getObj_map h.heap, L.check _ k w, hf, Result.andThen, run_setObj_put _ h.heap]
      congr 2
      rw [← mdel_erase h.keys h3 h4]
      simp [Array.eraseIdxIfInBounds, hlt]
      rw [List.eraseIdx_eq_take_drop_succ, List.eraseIdx_eq_take_drop_succ]
      simp
  · exact (List.filter_sublist.map _).nodup h.keys
  · intro e he; exact h.born e (List.mem_filter.1 he).1
  · exact (List.filter_sublist.map _).nodup h.borns

omit [DecidableEq K] in
theorem run_clear_raw {w : World} {b : Nat} {es : List (Ent K)} {clock : Nat} (h : MapAt w b enc es clock) {M E ty : TypeId} (hM : P.underlying M = some (.map T E)) :
    ∃ w', (Builtin.clear_ #[M] ty #[.map (some b)]).run P w = .ok (.tuple #[]) w' ∧ MapAt w' b enc ([] : List (Ent K)) clock ∧ Ext (fun x => x = b) w w' := by
  refine ⟨w.putObj b (.map #[] clock), ?_, ⟨by simpa using World.putObj_heap_same h.lt, List.nodup_nil, fun e he => by simp at he, List.nodup_nil⟩, ext_putObj _ _ _⟩
  simp [Builtin.clear_, run_underlying hM, MapKept.run_getObj_map h.heap, Result.andThen, run_setObj_put _ h.heap]

/-- Keys that are ints. -/
def encI (k : Int) : Value := .int .i64 k
theorem findNow_int (k : Int) : ∀ (es : List (Ent Int)) (i : Nat), Instr.findNow (.int .i64) (encI k) (es.map (Ent.raw encI)) i = some (mfind k es i)
  | [], _ => rfl
  | e :: es, i => by
    simp only [List.map_cons, Instr.findNow, Ent.raw, encI, Instr.sameNow, if_true, mfind]
    by_cases h : k = e.k
    · simp [h]
    · have : (k == e.k) = false := by simpa using h
      simp only [this, h, if_false]
      exact findNow_int k es (i + 1)
theorem keyLaw_int (hT : P.underlying T = some (.int .i64)) : KeyLaw P T encI where
  check em k w := MapKept.run_checkKey hT (by simp [MapKept.IsKey, encI]) em 9999
  find k es w := by
    simp [Instr.findKey, run_underlying hT, findNow_int, Result.andThen]
  same k := by simp [encI, Instr.sameBits]

/-! ### Going through a map -/
def IterAt (w : World) (r b since : Nat) (seen : Array Nat) (last : Nat) : Prop := w.heap[r]? = some (.mapIter (some b) since seen last)

omit [DecidableEq K] in
theorem run_range_raw {w : World} {b : Nat} {es : List (Ent K)} {clock : Nat} (h : MapAt w b enc es clock) {M E : TypeId} (hM : P.underlying M = some (.map T E)) :
    (Instr.range M (.map (some b))).run P w = .ok (.pointer (some ⟨w.heap.size, 0, none⟩)) (w.alloc (.mapIter (some b) clock #[] clock)) ∧ IterAt (w.alloc (.mapIter (some b) clock #[] clock)) w.heap.size b clock #[] clock := by
  constructor
  · simp [Instr.range, run_underlying hM, MapKept.run_getObj_map h.heap, Result.andThen, run_newObj_alloc]
  · show (w.heap.push _)[w.heap.size]? = _
    simp

theorem choose_next {P : Program} (w : World) {n : Nat} (hn : 0 < n) : ∃ c w1, (choose (.mapNext n)).run P w = .ok c w1 ∧ c < n ∧ w1.heap = w.heap ∧ w1.os = w.os ∧ w1.tape = w.tape ∧ w1.output = w.output := by
  by_cases hf : (Question.mapNext n).forced = true
  · exact ⟨0, w, by simp only [choose, Sem.run, hf, if_true], hn, rfl, rfl, rfl, rfl⟩
  · refine ⟨(Question.mapNext n).cut (w.tape w.drawn (Question.mapNext n)), { w with drawn := w.drawn + 1 }, by simp only [choose, Sem.run, hf, if_false, Bool.false_eq_true], ?_, rfl, rfl, rfl, rfl⟩
    exact Nat.mod_lt _ hn

omit [DecidableEq K] in
theorem run_next_raw {w : World} {b r since last : Nat} {seen : Array Nat} {es : List (Ent K)} {clock : Nat} (h : MapAt w b enc es clock) (hi : IterAt w r b since seen last) (hold : ∀ e ∈ es, e.born < since)
    (hg : seen = #[] ∨ es = [] ∨ ∃ e ∈ es, e.born < last) (ty : TypeId) :
    ((∀ e ∈ es, e.born ∈ seen) ∧ (Instr.next (.pointer (some ⟨r, 0, none⟩)) false ty).run P w = .ok (.tuple #[.bool false]) w) ∨
    ∃ e ∈ es, e.born ∉ seen ∧ ∃ w', (Instr.next (.pointer (some ⟨r, 0, none⟩)) false ty).run P w = .ok (.tuple #[.bool true, enc e.k, e.v]) w' ∧ IterAt w' r b since (seen.push e.born) clock ∧ Ext (fun x => x = r) w w' := by
  have hgo : (getObj r).run P w = .ok (.mapIter (some b) since seen last) w := by simp [getObj, Sem.run, show w.heap[r]? = _ from hi]
  have hg1 : (!seen.isEmpty && !(es.map (Ent.raw enc)).toArray.isEmpty && (es.map (Ent.raw enc)).toArray.all (fun e => decide (e.born ≥ last))) = false := by
    rcases hg with rfl | rfl | ⟨e, he, hb⟩
    · simp
    · simp
    · have : (es.map (Ent.raw enc)).toArray.all (fun e => decide (e.born ≥ last)) = false := by
        rw [List.all_toArray, List.all_eq_false]
        exact ⟨e.raw enc, List.mem_map_of_mem he, by simp [Ent.raw]; omega⟩
      rw [this]; simp
  obtain ⟨left, hleft⟩ : ∃ left, left = (es.map (Ent.raw enc)).filter (fun e => !seen.contains e.born) := ⟨_, rfl⟩
  have hmem : ∀ x ∈ left, ∃ e ∈ es, x = e.raw enc ∧ e.born ∉ seen := by
    intro x hx
    rw [hleft, List.mem_filter] at hx
    obtain ⟨e, he, rfl⟩ := List.mem_map.1 hx.1
    exact ⟨e, he, rfl, by simpa [Ent.raw] using hx.2⟩
  have h1 : left.filter (fun e => decide (e.born < since)) = left := by
    rw [List.filter_eq_self]
    intro x hx
    obtain ⟨e, he, rfl, _⟩ := hmem x hx
    exact decide_eq_true (hold e he)
  have h2 : left.filter (fun e => decide (e.born ≥ since)) = [] := by
    rw [List.filter_eq_nil_iff]
    intro x hx
    obtain ⟨e, he, rfl, _⟩ := hmem x hx
    have := hold e he
    simp [Ent.raw]
    omega
  have hrun : (Instr.next (.pointer (some ⟨r, 0, none⟩)) false ty).run P w = ((choose (.mapNext ((if left.isEmpty then #[none] else #[]) ++ left.toArray.map some).size)).run P w).andThen fun c w1 =>
      (match ((if left.isEmpty then #[none] else #[]) ++ left.toArray.map some)[c]? with
        | some (some e) => (do setObj r (.mapIter (some b) since (seen.push e.born) clock); pure (.tuple #[.bool true, e.key, e.val]) : Sem Value)
        | some none => pure (.tuple #[.bool false])
        | none => stuck "Next: no such candidate").run P w1 := by
    unfold Instr.next
    simp only [Sem.run_bind, hgo, Result.andThen_ok, MapKept.run_getObj_map h.heap, hg1, Bool.false_eq_true, if_false, Sem.run_pure]
    rw [show (es.map (Ent.raw enc)).toArray.filter (fun e => !seen.contains e.born) = left.toArray by rw [hleft, List.filter_toArray]]
    rw [List.filter_toArray, h1, List.filter_toArray, h2]
    simp only [Array.append_empty, List.isEmpty_toArray]
    rfl
  cases hl : left with
  | nil =>
    refine .inl ⟨fun e he => ?_, ?_⟩
    · refine Classical.byContradiction fun hn => ?_
      have : e.raw enc ∈ left := by rw [hleft, List.mem_filter]; exact ⟨List.mem_map_of_mem he, by simpa [Ent.raw] using hn⟩
      rw [hl] at this
      simp at this
    · rw [hrun, hl]
      simp [choose, Sem.run, Question.forced]
  | cons x xs =>
    obtain ⟨c, w1, hc, hc2, hw1⟩ := choose_next (P := P) w (n := (x :: xs).length) (by simp)
    obtain ⟨y, hy⟩ : ∃ y, (x :: xs)[c]? = some y := ⟨(x :: xs)[c], by simp⟩
    obtain ⟨e, he, rfl, hns⟩ := hmem y (by rw [hl]; exact List.mem_of_getElem? hy)
    refine .inr ⟨e, he, hns, w1.putObj r (.mapIter (some b) since (seen.push e.born) clock), ?_, ?_, ?_⟩
    · rw [hrun, hl]
      have hso : (setObj r (.mapIter (some b) since (seen.push e.born) clock)).run P w1 = .ok () (w1.putObj r (.mapIter (some b) since (seen.push e.born) clock)) := by
        simp [setObj, Sem.run, hw1.1, show w.heap[r]? = _ from hi, World.putObj]
      simp only [List.isEmpty_cons, Bool.false_eq_true, if_false, Array.empty_append, Array.size_map, List.size_toArray, hc, Result.andThen_ok]
      rw [Array.getElem?_map, List.getElem?_toArray, hy]
      simp only [Option.map_some, Sem.run_bind]
      simp only [Ent.raw] at hso ⊢
      rw [hso]
      rfl
    · exact World.putObj_heap_same (by rw [hw1.1]; exact (Array.getElem?_eq_some_iff.1 hi).1)
    · refine ⟨hw1.2.1, hw1.2.2.1, hw1.2.2.2, by simp [hw1.1], fun k _ hk => ?_⟩
      rw [World.putObj_heap_other hk, hw1.1]

omit [DecidableEq K] in
theorem run_entry_raw {w : World} {b r since : Nat} {seen : Array Nat} {es : List (Ent K)} {clock : Nat} (h : MapAt w b enc es clock) {e : Ent K} (he : e ∈ es) (hi : IterAt w r b since (seen.push e.born) clock) :
    (Instr.entry (.pointer (some ⟨r, 0, none⟩))).run P w = .ok (.tuple #[enc e.k, e.v]) w := by
  have hgo : (getObj r).run P w = .ok (.mapIter (some b) since (seen.push e.born) clock) w := by simp [getObj, Sem.run, show w.heap[r]? = _ from hi]
  have hf : (es.map (Ent.raw enc)).toArray.find? (fun x => x.born == e.born) = some (e.raw enc) := by
    rw [List.find?_toArray]
    have hb := h.borns
    clear h hgo hi
    induction es with
    | nil => simp at he
    | cons a es ih =>
      simp only [List.map_cons, List.nodup_cons] at hb
      rcases List.mem_cons.1 he with rfl | he'
      · simp [Ent.raw]
      · have hne : ¬ a.born = e.born := fun heq => hb.1 (heq ▸ List.mem_map_of_mem (f := (·.born)) he')
        rw [List.map_cons, List.find?_cons_of_neg (by simpa [Ent.raw] using hne)]
        exact ih he' hb.2
  unfold Instr.entry
  simp only [Sem.run_bind, hgo, Result.andThen_ok, Array.back?_push, MapKept.run_getObj_map h.heap]
  simp only [bne_self_eq_false, Bool.false_eq_true, if_false, Sem.run_pure, Result.andThen_ok]
  rw [hf]
  rfl
end Go.Proofs.Ytpkaepmmkojdaaa
