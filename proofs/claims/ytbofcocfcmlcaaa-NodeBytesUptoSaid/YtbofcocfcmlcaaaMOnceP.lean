import Derived.Test.YtbofcocfcmlcaaaLook
import Derived.ChangeKeysEq
import Derived.Laws.StructEq
import Derived.Test.YtbofcocfcmlcaaaMApartP
/-! '==' on what a store tells: a value is like itself. -/
namespace Go.Proofs.Ytbofcocfcmlcaaa
open Go.RowKit

section
variable {P : Program}
/-- A value that '==' finds like itself, in any world. -/
def SameAt (P : Program) (d : Nat) (t : TypeId) (v : Value) : Prop := ∀ w, (Op.equalIn d t v v).run P w = .ok true w

theorem same_string {d : Nat} {t : TypeId} (ht : P.underlying t = some .string) (s : ByteArray) : SameAt P (d + 1) t (.string s) := fun w => by
  simp [Op.equalIn, run_underlying ht, beq_toListBytes]
theorem same_bool {d : Nat} {t : TypeId} (ht : P.underlying t = some .bool) (b : Bool) : SameAt P (d + 1) t (.bool b) := fun w => by
  simp [Op.equalIn, run_underlying ht]
theorem same_int {d : Nat} {t : TypeId} {k : IntKind} (ht : P.underlying t = some (.int k)) (n : Int) : SameAt P (d + 1) t (.int k n) := fun w => by
  simp [Op.equalIn, run_underlying ht]
theorem same_array {d : Nat} {t e : TypeId} {n : Nat} {i : TypeInfo} {xs : Array Value} (ht : P.underlying t = some (.array n e)) (hi : P.info? e = some i)
    (h : ∀ j, j < n → ∃ v, (∀ w, (part e xs (j * P.cellsOf e)).run P w = .ok v w) ∧ SameAt P d e v) : SameAt P (d + 1) t (.agg xs) := fun w => by
  rw [run_equalIn_array w d xs xs ht hi]
  have key : ∀ l : List Nat, (∀ j ∈ l, j < n) → (Op.eqItems d e (P.cellsOf e) xs xs l).run P w = .ok true w := by
    intro l
    induction l with
    | nil => intro _; simp [Op.eqItems]
    | cons j l ih =>
      intro hl
      obtain ⟨v, h1, h2⟩ := h j (hl j List.mem_cons_self)
      simp [Op.eqItems, Sem.run_bind, h1, h2 w, ih (fun j hj => hl j (List.mem_cons_of_mem _ hj))]
  exact key _ (fun j hj => List.mem_range.1 hj)
theorem same_struct {d : Nat} {t : TypeId} {xs : Array Value} (ht : P.underlying t = some (.struct (P.fieldsOf t))) (hp : P.stoodInHeld t = false)
    (h : ∀ f ∈ (P.fieldsOf t).toList, ∃ v, (∀ w, (part f.type xs f.offset).run P w = .ok v w) ∧ SameAt P d f.type v) : SameAt P (d + 1) t (.agg xs) := fun w => by
  rw [run_equalIn_struct w d t xs xs ht hp]
  generalize (P.fieldsOf t).toList = fs at h
  induction fs with
  | nil => simp [Op.eqFields]
  | cons f fs ih =>
    obtain ⟨v, h1, h2⟩ := h f List.mem_cons_self
    have := ih (fun f hf => h f (List.mem_cons_of_mem _ hf))
    by_cases hn : f.name = "_"
    · simp [Op.eqFields, Sem.run_bind, hn, this]
    · simp [Op.eqFields, Sem.run_bind, hn, h1, h2 w, this]

theorem run_part_agg {e : TypeId} {xs : Array Value} {off : Nat} {n : Nat} (ha : ∀ w, (isAgg e).run P w = .ok true w) (hs : (P.info? e).map (·.size) = some n) (w : World) : (part e xs off).run P w = .ok (.agg (xs.extract off (off + n))) w := by
  obtain ⟨i, hi, he⟩ := Option.map_eq_some_iff.1 hs
  simp [part, Sem.run_bind, ha, sizeOf, typeInfo, hi, he]

theorem run_eql_same {t : TypeId} {x y : Operand} {o : Oper} {t' : TypeId} {a : Act} {cs : Array Value} (ho : o.op = .binOp .eql t x y t') (hx : a.eval x = .agg cs) (hy : a.eval y = .agg cs) (hg : P.eqGuardType P.depth t = false) (hs : SameAt P Op.maxDepth t (.agg cs)) (w : World) :
    (execOp a.eval o).run P w = .ok (.value (.bool true)) w := by
  unfold execOp
  simp [ho, hx, hy, eqGuard, hg, binOp, Sem.run_bind, Op.equal, hs w]
theorem run_neq_same {t : TypeId} {x y : Operand} {o : Oper} {t' : TypeId} {a : Act} {cs : Array Value} (ho : o.op = .binOp .neq t x y t') (hx : a.eval x = .agg cs) (hy : a.eval y = .agg cs) (hg : P.eqGuardType P.depth t = false) (hs : SameAt P Op.maxDepth t (.agg cs)) (w : World) :
    (execOp a.eval o).run P w = .ok (.value (.bool false)) w := by
  unfold execOp
  simp [ho, hx, hy, eqGuard, hg, binOp, Sem.run_bind, Op.equal, hs w]
end

/-! ### The parts of what is told -/
def StrAt (cs : Array Value) (n : Nat) : Prop := ∀ j, j < n → ∃ s, cs[j]? = some (.string s)
def BoolAt (cs : Array Value) (n : Nat) : Prop := ∀ j, j < n → ∃ b, cs[j]? = some (.bool b)
def IntAt (cs : Array Value) (n : Nat) : Prop := ∀ j, j < n → ∃ b, cs[j]? = some (.int .i64 b)

theorem same_6string {d : Nat} {cs : Array Value} (h : StrAt cs 6) : SameAt Try.prog (d + 2) 37 (.agg cs) := by
  obtain ⟨i, hi, _⟩ := Option.map_eq_some_iff.1 (show (Try.prog.info? 9).map (·.size) = some 1 by kernel_rfl)
  refine same_array (d := d + 1) Try.underlying37 hi (fun j hj => ?_)
  obtain ⟨s, hs⟩ := h j hj
  rw [show Try.prog.cellsOf 9 = 1 by kernel_rfl, Nat.mul_one]
  exact ⟨_, fun w => run_part_plain w (by kernel_rfl) hs, same_string Try.underlying9 s⟩
theorem same_6bool {d : Nat} {cs : Array Value} (h : BoolAt cs 6) : SameAt Try.prog (d + 2) 39 (.agg cs) := by
  obtain ⟨i, hi, _⟩ := Option.map_eq_some_iff.1 (show (Try.prog.info? 4).map (·.size) = some 1 by kernel_rfl)
  refine same_array (d := d + 1) Try.underlying39 hi (fun j hj => ?_)
  obtain ⟨s, hs⟩ := h j hj
  rw [show Try.prog.cellsOf 4 = 1 by kernel_rfl, Nat.mul_one]
  exact ⟨_, fun w => run_part_plain w (by kernel_rfl) hs, same_bool Try.underlying4 s⟩
theorem same_3bool {d : Nat} {cs : Array Value} (h : BoolAt cs 3) : SameAt Try.prog (d + 2) 41 (.agg cs) := by
  obtain ⟨i, hi, _⟩ := Option.map_eq_some_iff.1 (show (Try.prog.info? 4).map (·.size) = some 1 by kernel_rfl)
  refine same_array (d := d + 1) Try.underlying41 hi (fun j hj => ?_)
  obtain ⟨s, hs⟩ := h j hj
  rw [show Try.prog.cellsOf 4 = 1 by kernel_rfl, Nat.mul_one]
  exact ⟨_, fun w => run_part_plain w (by kernel_rfl) hs, same_bool Try.underlying4 s⟩
theorem same_3int {d : Nat} {cs : Array Value} (h : IntAt cs 3) : SameAt Try.prog (d + 2) 42 (.agg cs) := by
  obtain ⟨i, hi, _⟩ := Option.map_eq_some_iff.1 (show (Try.prog.info? 3).map (·.size) = some 1 by kernel_rfl)
  refine same_array (d := d + 1) Try.underlying42 hi (fun j hj => ?_)
  obtain ⟨s, hs⟩ := h j hj
  rw [show Try.prog.cellsOf 3 = 1 by kernel_rfl, Nat.mul_one]
  exact ⟨_, fun w => run_part_plain w (by kernel_rfl) hs, same_int Try.underlying3 s⟩
theorem ext_get {cs : Array Value} {a n j : Nat} (hj : j < n) (hs : a + n ≤ cs.size) : (cs.extract a (a + n))[j]? = cs[a + j]? := by
  rw [Array.getElem?_extract_of_lt (by omega), Array.getElem?_eq_getElem]
theorem same_36string {d : Nat} {cs : Array Value} (hs : 18 ≤ cs.size) (h : StrAt cs 18) : SameAt Try.prog (d + 3) 38 (.agg cs) := by
  obtain ⟨i, hi, _⟩ := Option.map_eq_some_iff.1 (show (Try.prog.info? 37).map (·.size) = some 6 by kernel_rfl)
  refine same_array (d := d + 2) Try.underlying38 hi (fun j hj => ?_)
  rw [show Try.prog.cellsOf 37 = 6 by kernel_rfl]
  refine ⟨_, fun w => run_part_agg (n := 6) (fun w => by kernel_rfl) (by kernel_rfl) w, same_6string (fun k hk => ?_)⟩
  rw [ext_get hk (by omega)]
  exact h _ (by omega)
theorem same_36bool {d : Nat} {cs : Array Value} (hs : 18 ≤ cs.size) (h : BoolAt cs 18) : SameAt Try.prog (d + 3) 40 (.agg cs) := by
  obtain ⟨i, hi, _⟩ := Option.map_eq_some_iff.1 (show (Try.prog.info? 39).map (·.size) = some 6 by kernel_rfl)
  refine same_array (d := d + 2) Try.underlying40 hi (fun j hj => ?_)
  rw [show Try.prog.cellsOf 39 = 6 by kernel_rfl]
  refine ⟨_, fun w => run_part_agg (n := 6) (fun w => by kernel_rfl) (by kernel_rfl) w, same_6bool (fun k hk => ?_)⟩
  rw [ext_get hk (by omega)]
  exact h _ (by omega)

theorem fields_told : (Try.prog.fieldsOf 44).toList.map (fun f => (f.type, f.offset)) = [(38, 0), (40, 18), (41, 36), (42, 39)] := by kernel_rfl
theorem same_told (S : St) : SameAt Try.prog Op.maxDepth 44 (.agg (told S)) := by
  rw [show Op.maxDepth = 9996 + 3 + 1 from rfl]
  refine same_struct (by kernel_rfl) (by kernel_rfl) (fun f hf => ?_)
  have hm : (f.type, f.offset) ∈ (Try.prog.fieldsOf 44).toList.map (fun f => (f.type, f.offset)) := List.mem_map.2 ⟨f, hf, rfl⟩
  have hsz := told_size S
  rw [fields_told] at hm
  simp only [List.mem_cons, Prod.mk.injEq, List.not_mem_nil, or_false] at hm
  rcases hm with ⟨h1, h2⟩ | ⟨h1, h2⟩ | ⟨h1, h2⟩ | ⟨h1, h2⟩
  · rw [h1, h2]
    refine ⟨_, fun w => run_part_agg (n := 18) (fun w => by kernel_rfl) (by kernel_rfl) w, same_36string (by simp; omega) (fun j hj => ?_)⟩
    rw [ext_get hj (by omega), told_get, if_pos (by omega)]
    exact ⟨_, rfl⟩
  · rw [h1, h2]
    refine ⟨_, fun w => run_part_agg (n := 18) (fun w => by kernel_rfl) (by kernel_rfl) w, same_36bool (by simp; omega) (fun j hj => ?_)⟩
    rw [ext_get hj (by omega), told_get, if_neg (by omega), if_pos (by omega)]
    exact ⟨_, rfl⟩
  · rw [h1, h2]
    refine ⟨_, fun w => run_part_agg (n := 3) (fun w => by kernel_rfl) (by kernel_rfl) w, same_3bool (d := 9997) (fun j hj => ?_)⟩
    rw [ext_get hj (by omega), told_get, if_neg (by omega), if_neg (by omega), if_pos (by omega)]
    exact ⟨_, rfl⟩
  · rw [h1, h2]
    refine ⟨_, fun w => run_part_agg (n := 3) (fun w => by kernel_rfl) (by kernel_rfl) w, same_3int (d := 9997) (fun j hj => ?_)⟩
    rw [ext_get hj (by omega), told_get, if_neg (by omega), if_neg (by omega), if_neg (by omega), if_pos (by omega)]
    exact ⟨_, rfl⟩
theorem guard_told : Try.prog.eqGuardType Try.prog.depth 44 = false := by kernel_rfl
theorem guard_6string : Try.prog.eqGuardType Try.prog.depth 37 = false := by kernel_rfl
theorem guard_6bool : Try.prog.eqGuardType Try.prog.depth 39 = false := by kernel_rfl
end Go.Proofs.Ytbofcocfcmlcaaa

/-! StoreOnce: the plain law; what lies in memory in a round. -/
namespace Go.Proofs.Ytbofcocfcmlcaaa
open Go.RowKit

structure Step (S S' : St) (rep : Bool) : Prop where
  slots : ∀ k l, S.slots k = some l → S'.slots k = some l
  trim : ∀ a, (S.get a).2.1 ≤ (S'.get a).2.1
  sealed : ∀ a, (S.get a).2.2 = true → (S'.get a).2.2 = true
  fresh : ∀ a b, (S.get a).2.2 = true → rep = false → S.slots (a, b) = none → S'.slots (a, b) = none

theorem Step.refl (S : St) (rep : Bool) : Step S S rep := ⟨fun _ _ h => h, fun _ => Int.le_refl _, fun _ h => h, fun _ _ _ _ h => h⟩
theorem writeF_step {S S1 : St} {D : Dk} {rep : Bool} (h : Step S S1 rep) (kd lo po : Int) (l : List UInt8) : Step S (writeF S S1 D kd lo po l).2.1 rep := by
  unfold writeF
  split
  · exact ⟨h.slots, h.trim, h.sealed, h.fresh⟩
  · exact Step.refl S rep
theorem get_state (S : St) (lo a : Int) (x : Int × Int × Bool) : (S.setState lo x).get a = if a = lo then x else S.get a := by
  by_cases h : a = lo
  · subst h; rw [if_pos rfl, get_self]
  · rw [if_neg h, get_other S lo a x h]

theorem once_step (S : St) (D : Dk) (o : Opr) : Step S (callF S D o).2.1 o.rep := by
  unfold callF
  split
  · split
    · exact Step.refl _ _
    · unfold putF
      split
      · exact Step.refl _ _
      split
      · split <;> exact Step.refl _ _
      · rename_i hs
        split
        · exact Step.refl _ _
        · rename_i hse
          refine writeF_step ⟨fun k l hk => ?_, fun a => ?_, fun a ha => ?_, fun a b ha hr hn => ?_⟩ _ _ _ _
          · show (if k = _ then _ else _) = _
            rw [if_neg (fun e => by rw [e, hs] at hk; cases hk)]
            exact hk
          · unfold applyPut
            rw [get_state]
            split
            · rename_i e; rw [e]; exact Int.le_refl _
            · exact Int.le_refl _
          · unfold applyPut
            rw [get_state]
            split
            · rename_i e; rw [← e]; exact ha
            · exact ha
          · show (if (a, b) = _ then _ else _) = _
            rw [if_neg (fun e => ?_)]
            · exact hn
            · have e1 : a = mod3 o.lo 3 := congrArg Prod.fst e
              rw [← e1, ha, hr] at hse
              simp at hse
  split
  · unfold sealF
    split
    · exact Step.refl _ _
    · refine writeF_step (S := S) (S1 := applySeal S (mod3 o.lo 3)) ⟨fun k l hk => hk, fun a => ?_, fun a ha => ?_, fun a b ha hr hn => hn⟩ _ _ _ _
      · unfold applySeal
        rw [get_state]
        split
        · rename_i e; rw [e]; exact Int.le_refl _
        · exact Int.le_refl _
      · unfold applySeal
        rw [get_state]
        split
        · rfl
        · exact ha
  split
  · unfold trimF
    split
    · exact Step.refl _ _
    · refine writeF_step (S := S) (S1 := applyTrim S (mod3 o.lo 3) (mod3 o.po 6)) ⟨fun k l hk => hk, fun a => ?_, fun a ha => ?_, fun a b ha hr hn => hn⟩ _ _ _ _
      · unfold applyTrim
        rw [get_state]
        split
        · rename_i e; rw [e]; exact Int.le_max_left _ _
        · exact Int.le_refl _
      · unfold applyTrim
        rw [get_state]
        split
        · rename_i e; rw [← e]; exact ha
        · exact ha
  · exact Step.refl _ _

theorem writeF_code (S S1 : St) (D : Dk) (kd lo po : Int) (l : List UInt8) (h : (writeF S S1 D kd lo po l).1 ≠ 0) : (writeF S S1 D kd lo po l).2.1 = S ∧ (writeF S S1 D kd lo po l).2.2 = D := by
  unfold writeF at h ⊢
  split
  · rename_i hc; rw [if_pos hc] at h; exact absurd rfl h
  · exact ⟨rfl, rfl⟩
theorem once_code (S : St) (D : Dk) (o : Opr) (h : (callF S D o).1 ≠ 0) : (callF S D o).2.1 = S ∧ (callF S D o).2.2 = D := by
  unfold callF at h ⊢
  split at h
  · rename_i h0
    rw [if_pos h0]
    split at h
    · rename_i h1; rw [if_pos h1]; exact ⟨rfl, rfl⟩
    · rename_i h1
      rw [if_neg h1]
      unfold putF at h ⊢
      split at h
      · rename_i h2; rw [if_pos h2]; exact ⟨rfl, rfl⟩
      · rename_i h2
        rw [if_neg h2]
        cases hs : S.slots (mod3 o.lo 3, mod3 o.po 6) with
        | some old =>
          simp only
          split <;> exact ⟨rfl, rfl⟩
        | none =>
          rw [hs] at h
          simp only at h ⊢
          split at h
          · rename_i h3; rw [if_pos h3]; exact ⟨rfl, rfl⟩
          · rename_i h3; rw [if_neg h3]; exact writeF_code _ _ _ _ _ _ _ h
  · rename_i h0
    rw [if_neg h0]
    split at h
    · rename_i h1
      rw [if_pos h1]
      unfold sealF at h ⊢
      split at h
      · rename_i h2; rw [if_pos h2]; exact ⟨rfl, rfl⟩
      · rename_i h2; rw [if_neg h2]; exact writeF_code _ _ _ _ _ _ _ h
    · rename_i h1
      rw [if_neg h1]
      split at h
      · rename_i h2
        rw [if_pos h2]
        unfold trimF at h ⊢
        split at h
        · rename_i h3; rw [if_pos h3]; exact ⟨rfl, rfl⟩
        · rename_i h3; rw [if_neg h3]; exact writeF_code _ _ _ _ _ _ _ h
      · rename_i h2
        rw [if_neg h2]
        exact ⟨rfl, rfl⟩

/-! ### What is told, as flags -/
def thB (S : St) (a b : Nat) : Bool := decide ((getF S (a : Nat) (b : Nat)).1 = 0)
theorem tThere_eq (S : St) (a b : Nat) (hb : b < 6) : tThere S (a * 6 + b) = .bool (thB S a b) := by
  unfold tThere thB
  rw [show (a * 6 + b) / 6 = a from by omega, show (a * 6 + b) % 6 = b from by omega]
theorem tData_eq (S : St) (a b : Nat) (hb : b < 6) : tData S (a * 6 + b) = .string ⟨(getF S (a : Nat) (b : Nat)).2.toArray⟩ := by
  unfold tData
  rw [show (a * 6 + b) / 6 = a from by omega, show (a * 6 + b) % 6 = b from by omega]
theorem getF_zero {S : St} {lo po : Int} (h : (getF S lo po).1 = 0) : ¬ po < (S.get lo).2.1 ∧ ∃ l, S.slots (lo, po) = some l ∧ (getF S lo po).2 = l := by
  unfold getF at *
  by_cases h1 : po < (S.get lo).2.1
  · rw [if_pos h1] at h; cases h
  · rw [if_neg h1] at h ⊢
    cases hs : S.slots (lo, po) with
    | none => rw [hs] at h; cases h
    | some l => exact ⟨h1, l, rfl, rfl⟩
theorem getF_some {S : St} {lo po : Int} {l : List UInt8} (h1 : ¬ po < (S.get lo).2.1) (h : S.slots (lo, po) = some l) : getF S lo po = (0, l) := by
  unfold getF
  rw [if_neg h1, h]
theorem once_data {S S' : St} {rep : Bool} (h : Step S S' rep) {a b : Nat} (h1 : thB S a b = true) (h2 : thB S' a b = true) : (getF S' (a : Nat) (b : Nat)).2 = (getF S (a : Nat) (b : Nat)).2 := by
  obtain ⟨_, l, hs, hl⟩ := getF_zero (of_decide_eq_true h1)
  obtain ⟨_, l', hs', hl'⟩ := getF_zero (of_decide_eq_true h2)
  rw [h.slots _ _ hs] at hs'
  cases hs'
  rw [hl, hl']
theorem once_gone {S S' : St} {rep : Bool} (h : Step S S' rep) {a b : Nat} (h1 : thB S a b = true) (h2 : thB S' a b = false) : (b : Int) < (S'.get (a : Nat)).2.1 := by
  obtain ⟨_, l, hs, hl⟩ := getF_zero (of_decide_eq_true h1)
  refine Classical.byContradiction fun hc => ?_
  have := getF_some hc (h.slots _ _ hs)
  unfold thB at h2
  rw [this] at h2
  simp at h2
theorem once_new {S S' : St} {rep : Bool} (h : Step S S' rep) {a b : Nat} (h0 : (S.get (a : Nat)).2.2 = true) (hr : rep = false) (h1 : thB S a b = false) : thB S' a b = false := by
  refine Bool.eq_false_iff.2 fun h2 => ?_
  obtain ⟨ht, l', hs', hl'⟩ := getF_zero (of_decide_eq_true h2)
  cases hs : S.slots ((a : Int), (b : Int)) with
  | none => rw [h.fresh _ _ h0 hr hs] at hs'; cases hs'
  | some l =>
    have := h.trim (a : Nat)
    have := getF_some (S := S) (lo := (a : Nat)) (po := (b : Nat)) (by omega) hs
    unfold thB at h1
    rw [this] at h1
    simp at h1

/-! ### What lies in memory -/
structure OnceAt (W0 : World) (w : World) (q : StP) (S : St) (D : Dk) (TW : Nat) (S0 : St) : Prop where
  st : StAt w q S D
  on : On S D
  was : Blk w TW (told S0) 44
  out : ¬ q.all TW
  new : ∀ b, q.all b ∨ b = TW → W0.heap.size ≤ b
  below : Below W0.heap.size W0 w
theorem OnceAt.keep {W0 w w' : World} {q : StP} {S : St} {D : Dk} {TW : Nat} {S0 : St} (h : OnceAt W0 w q S D TW S0) (hb : Below w.heap.size w w') : OnceAt W0 w' q S D TW S0 :=
  ⟨h.st.keep hb, h.on, h.was.keep hb, h.out, h.new, h.below.trans (hb.mono h.below.size)⟩
theorem OnceAt.went {W0 w w' : World} {q q' : StP} {S S' : St} {D D' : Dk} {TW : Nat} {S0 : St} (h : OnceAt W0 w q S D TW S0) (h1 : StAt w' q' S' D') (ho : On S' D') (hw : Went q q' w.heap.size) (hx : Ext q.own w w') : OnceAt W0 w' q' S' D' TW S0 :=
  ⟨h1, ho, h.was.ext hx (fun hc => h.out (.inl hc)), fun hc => (hw.2.2.2.2 _ hc).elim h.out (fun hl => by have := h.was.lt; omega),
    fun b hb => hb.elim (fun hq => (hw.2.2.2.2 b hq).elim (fun hq => h.new b (.inl hq)) (fun hl => by have := h.below.size; omega)) (fun e => h.new b (.inr e)),
    h.below.trans (hx.belowOf h.below.size (fun b hb hc => by have := h.new b (.inl (.inl hc)); omega))⟩
theorem OnceAt.set {W0 w : World} {q : StP} {S : St} {D : Dk} {TW : Nat} {S0 : St} (h : OnceAt W0 w q S D TW S0) (S1 : St) : OnceAt W0 (w.setRow TW (told S1)) q S D TW S1 := by
  have hx : Ext (fun b => b = TW) w (w.setRow TW (told S1)) := (Ext.refl (fun b => b = TW) w).grown (setRow_grown _ _ _) (fun k h => by cases h; exact .inl rfl)
  exact ⟨h.st.ext hx (fun b e hq => h.out (e ▸ hq)), h.on, h.was.setRow (told S1), h.out, h.new, h.below.trans (hx.belowOf h.below.size (fun b hb e => by have := h.new b (.inr e); omega))⟩

theorem wp_neq_same {P : Program} {t : TypeId} {x y : Operand} {o : Oper} {t' : TypeId} {a : Act} {cs : Array Value} {w : World} {K : Act → World → Prop} {Q : Exit → Act → World → Prop} (ho : o.op = .binOp .neq t x y t') (hx : a.eval x = .agg cs) (hy : a.eval y = .agg cs) (hg : P.eqGuardType P.depth t = false) (hs : SameAt P Op.maxDepth t (.agg cs))
    (h : K (a.put o.dst (.bool false)) w) : o.wp P a w K Q := by
  unfold Oper.wp
  rw [run_neq_same ho hx hy hg hs w]
  exact h
end Go.Proofs.Ytbofcocfcmlcaaa
