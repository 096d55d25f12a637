import Derived.Test.YtbofcocfcmlcaaaLook
import Derived.ChangeKeysEq
import Derived.Laws.StructEq
/-! '==' on what a store tells: a value is like itself. -/
namespace Go.Proofs.Ytbofcocfcmlcaaa
open Go.RowKit

section
variable {P : Program}
/-- A value that '==' finds like itself, in any world. -/
def SameAt (P : Program) (d : Nat) (t : TypeId) (v : Value) : Prop := ∀ w, (Op.equalIn d t v v).run P w = .ok true w

theorem same_string {d : Nat} {t : TypeId} (ht : P.underlying t = some .string) (s : ByteArray) : SameAt P (d + 1) t (.string s) := fun w => by
  simp [Op.equalIn, run_underlying ht, beq_toListBytes]
theorem same_bool {d : Nat} {t : TypeId} (ht : P.underlying t = some .bool) (b : Bool) : SameAt P (d + 1) t (.bool b) := fun w => by
  simp [Op.equalIn, run_underlying ht]
theorem same_int {d : Nat} {t : TypeId} {k : IntKind} (ht : P.underlying t = some (.int k)) (n : Int) : SameAt P (d + 1) t (.int k n) := fun w => by
  simp [Op.equalIn, run_underlying ht]
theorem same_array {d : Nat} {t e : TypeId} {n : Nat} {i : TypeInfo} {xs : Array Value} (ht : P.underlying t = some (.array n e)) (hi : P.info? e = some i)
    (h : ∀ j, j < n → ∃ v, (∀ w, (part e xs (j * P.cellsOf e)).run P w = .ok v w) ∧ SameAt P d e v) : SameAt P (d + 1) t (.agg xs) := fun w => by
  rw [run_equalIn_array w d xs xs ht hi]
  have key : ∀ l : List Nat, (∀ j ∈ l, j < n) → (Op.eqItems d e (P.cellsOf e) xs xs l).run P w = .ok true w := by
    intro l
    induction l with
    | nil => intro _; simp [Op.eqItems]
    | cons j l ih =>
      intro hl
      obtain ⟨v, h1, h2⟩ := h j (hl j List.mem_cons_self)
      simp [Op.eqItems, Sem.run_bind, h1, h2 w, ih (fun j hj => hl j (List.mem_cons_of_mem _ hj))]
  exact key _ (fun j hj => List.mem_range.1 hj)
theorem same_struct {d : Nat} {t : TypeId} {xs : Array Value} (ht : P.underlying t = some (.struct (P.fieldsOf t))) (hp : P.stoodInHeld t = false)
    (h : ∀ f ∈ (P.fieldsOf t).toList, ∃ v, (∀ w, (part f.type xs f.offset).run P w = .ok v w) ∧ SameAt P d f.type v) : SameAt P (d + 1) t (.agg xs) := fun w => by
  rw [run_equalIn_struct w d t xs xs ht hp]
  generalize (P.fieldsOf t).toList = fs at h
  induction fs with
  | nil => simp [Op.eqFields]
  | cons f fs ih =>
    obtain ⟨v, h1, h2⟩ := h f List.mem_cons_self
    have := ih (fun f hf => h f (List.mem_cons_of_mem _ hf))
    by_cases hn : f.name = "_"
    · simp [Op.eqFields, Sem.run_bind, hn, this]
    · simp [Op.eqFields, Sem.run_bind, hn, h1, h2 w, this]

theorem run_part_agg {e : TypeId} {xs : Array Value} {off : Nat} {n : Nat} (ha : ∀ w, (isAgg e).run P w = .ok true w) (hs : (P.info? e).map (·.size) = some n) (w : World) : (part e xs off).run P w = .ok (.agg (xs.extract off (off + n))) w := by
  obtain ⟨i, hi, he⟩ := Option.map_eq_some_iff.1 hs
  simp [part, Sem.run_bind, ha, sizeOf, typeInfo, hi, he]

theorem run_eql_same {t : TypeId} {x y : Operand} {o : Oper} {t' : TypeId} {a : Act} {cs : Array Value} (ho : o.op = .binOp .eql t x y t') (hx : a.eval x = .agg cs) (hy : a.eval y = .agg cs) (hg : P.eqGuardType P.depth t = false) (hs : SameAt P Op.maxDepth t (.agg cs)) (w : World) :
    (execOp a.eval o).run P w = .ok (.value (.bool true)) w := by
  unfold execOp
  simp [ho, hx, hy, eqGuard, hg, binOp, Sem.run_bind, Op.equal, hs w]
theorem run_neq_same {t : TypeId} {x y : Operand} {o : Oper} {t' : TypeId} {a : Act} {cs : Array Value} (ho : o.op = .binOp .neq t x y t') (hx : a.eval x = .agg cs) (hy : a.eval y = .agg cs) (hg : P.eqGuardType P.depth t = false) (hs : SameAt P Op.maxDepth t (.agg cs)) (w : World) :
    (execOp a.eval o).run P w = .ok (.value (.bool false)) w := by
  unfold execOp
  simp [ho, hx, hy, eqGuard, hg, binOp, Sem.run_bind, Op.equal, hs w]
end

/-! ### The parts of what is told -/
def StrAt (cs : Array Value) (n : Nat) : Prop := ∀ j, j < n → ∃ s, cs[j]? = some (.string s)
def BoolAt (cs : Array Value) (n : Nat) : Prop := ∀ j, j < n → ∃ b, cs[j]? = some (.bool b)
def IntAt (cs : Array Value) (n : Nat) : Prop := ∀ j, j < n → ∃ b, cs[j]? = some (.int .i64 b)

theorem same_6string {d : Nat} {cs : Array Value} (h : StrAt cs 6) : SameAt Try.prog (d + 2) 37 (.agg cs) := by
  obtain ⟨i, hi, _⟩ := Option.map_eq_some_iff.1 (show (Try.prog.info? 9).map (·.size) = some 1 by kernel_rfl)
  refine same_array (d := d + 1) Try.underlying37 hi (fun j hj => ?_)
  obtain ⟨s, hs⟩ := h j hj
  rw [show Try.prog.cellsOf 9 = 1 by kernel_rfl, Nat.mul_one]
  exact ⟨_, fun w => run_part_plain w (by kernel_rfl) hs, same_string Try.underlying9 s⟩
theorem same_6bool {d : Nat} {cs : Array Value} (h : BoolAt cs 6) : SameAt Try.prog (d + 2) 39 (.agg cs) := by
  obtain ⟨i, hi, _⟩ := Option.map_eq_some_iff.1 (show (Try.prog.info? 4).map (·.size) = some 1 by kernel_rfl)
  refine same_array (d := d + 1) Try.underlying39 hi (fun j hj => ?_)
  obtain ⟨s, hs⟩ := h j hj
  rw [show Try.prog.cellsOf 4 = 1 by kernel_rfl, Nat.mul_one]
  exact ⟨_, fun w => run_part_plain w (by kernel_rfl) hs, same_bool Try.underlying4 s⟩
theorem same_3bool {d : Nat} {cs : Array Value} (h : BoolAt cs 3) : SameAt Try.prog (d + 2) 41 (.agg cs) := by
  obtain ⟨i, hi, _⟩ := Option.map_eq_some_iff.1 (show (Try.prog.info? 4).map (·.size) = some 1 by kernel_rfl)
  refine same_array (d := d + 1) Try.underlying41 hi (fun j hj => ?_)
  obtain ⟨s, hs⟩ := h j hj
  rw [show Try.prog.cellsOf 4 = 1 by kernel_rfl, Nat.mul_one]
  exact ⟨_, fun w => run_part_plain w (by kernel_rfl) hs, same_bool Try.underlying4 s⟩
theorem same_3int {d : Nat} {cs : Array Value} (h : IntAt cs 3) : SameAt Try.prog (d + 2) 42 (.agg cs) := by
  obtain ⟨i, hi, _⟩ := Option.map_eq_some_iff.1 (show (Try.prog.info? 3).map (·.size) = some 1 by kernel_rfl)
  refine same_array (d := d + 1) Try.underlying42 hi (fun j hj => ?_)
  obtain ⟨s, hs⟩ := h j hj
  rw [show Try.prog.cellsOf 3 = 1 by kernel_rfl, Nat.mul_one]
  exact ⟨_, fun w => run_part_plain w (by kernel_rfl) hs, same_int Try.underlying3 s⟩
theorem ext_get {cs : Array Value} {a n j : Nat} (hj : j < n) (hs : a + n ≤ cs.size) : (cs.extract a (a + n))[j]? = cs[a + j]? := by
  rw [Array.getElem?_extract_of_lt (by omega), Array.getElem?_eq_getElem]
theorem same_36string {d : Nat} {cs : Array Value} (hs : 18 ≤ cs.size) (h : StrAt cs 18) : SameAt Try.prog (d + 3) 38 (.agg cs) := by
  obtain ⟨i, hi, _⟩ := Option.map_eq_some_iff.1 (show (Try.prog.info? 37).map (·.size) = some 6 by kernel_rfl)
  refine same_array (d := d + 2) Try.underlying38 hi (fun j hj => ?_)
  rw [show Try.prog.cellsOf 37 = 6 by kernel_rfl]
  refine ⟨_, fun w => run_part_agg (n := 6) (fun w => by kernel_rfl) (by kernel_rfl) w, same_6string (fun k hk => ?_)⟩
  rw [ext_get hk (by omega)]
  exact h _ (by omega)
theorem same_36bool {d : Nat} {cs : Array Value} (hs : 18 ≤ cs.size) (h : BoolAt cs 18) : SameAt Try.prog (d + 3) 40 (.agg cs) := by
  obtain ⟨i, hi, _⟩ := Option.map_eq_some_iff.1 (show (Try.prog.info? 39).map (·.size) = some 6 by kernel_rfl)
  refine same_array (d := d + 2) Try.underlying40 hi (fun j hj => ?_)
  rw [show Try.prog.cellsOf 39 = 6 by kernel_rfl]
  refine ⟨_, fun w => run_part_agg (n := 6) (fun w => by kernel_rfl) (by kernel_rfl) w, same_6bool (fun k hk => ?_)⟩
  rw [ext_get hk (by omega)]
  exact h _ (by omega)

theorem fields_told : (Try.prog.fieldsOf 44).toList.map (fun f => (f.type, f.offset)) = [(38, 0), (40, 18), (41, 36), (42, 39)] := by kernel_rfl
theorem same_told (S : St) : SameAt Try.prog Op.maxDepth 44 (.agg (told S)) := by
  rw [show Op.maxDepth = 9996 + 3 + 1 from rfl]
  refine same_struct (by kernel_rfl) (by kernel_rfl) (fun f hf => ?_)
  have hm : (f.type, f.offset) ∈ (Try.prog.fieldsOf 44).toList.map (fun f => (f.type, f.offset)) := List.mem_map.2 ⟨f, hf, rfl⟩
  have hsz := told_size S
  rw [fields_told] at hm
  simp only [List.mem_cons, Prod.mk.injEq, List.not_mem_nil, or_false] at hm
  rcases hm with ⟨h1, h2⟩ | ⟨h1, h2⟩ | ⟨h1, h2⟩ | ⟨h1, h2⟩
  · rw [h1, h2]
    refine ⟨_, fun w => run_part_agg (n := 18) (fun w => by kernel_rfl) (by kernel_rfl) w, same_36string (by simp; omega) (fun j hj => ?_)⟩
    rw [ext_get hj (by omega), told_get, if_pos (by omega)]
    exact ⟨_, rfl⟩
  · rw [h1, h2]
    refine ⟨_, fun w => run_part_agg (n := 18) (fun w => by kernel_rfl) (by kernel_rfl) w, same_36bool (by simp; omega) (fun j hj => ?_)⟩
    rw [ext_get hj (by omega), told_get, if_neg (by omega), if_pos (by omega)]
    exact ⟨_, rfl⟩
  · rw [h1, h2]
    refine ⟨_, fun w => run_part_agg (n := 3) (fun w => by kernel_rfl) (by kernel_rfl) w, same_3bool (d := 9997) (fun j hj => ?_)⟩
    rw [ext_get hj (by omega), told_get, if_neg (by omega), if_neg (by omega), if_pos (by omega)]
    exact ⟨_, rfl⟩
  · rw [h1, h2]
    refine ⟨_, fun w => run_part_agg (n := 3) (fun w => by kernel_rfl) (by kernel_rfl) w, same_3int (d := 9997) (fun j hj => ?_)⟩
    rw [ext_get hj (by omega), told_get, if_neg (by omega), if_neg (by omega), if_neg (by omega), if_pos (by omega)]
    exact ⟨_, rfl⟩
theorem guard_told : Try.prog.eqGuardType Try.prog.depth 44 = false := by kernel_rfl
theorem guard_6string : Try.prog.eqGuardType Try.prog.depth 37 = false := by kernel_rfl
theorem guard_6bool : Try.prog.eqGuardType Try.prog.depth 39 = false := by kernel_rfl
end Go.Proofs.Ytbofcocfcmlcaaa
