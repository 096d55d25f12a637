import Derived.Test.YtbofcocfcmlcaaaMap
import Derived.Test.YtbofcocfcmlcaaaSync
import Derived.Laws.StructEq
import Derived.WideKeyRuns
/-! Maps whose keys are slots: a struct of two ints. -/
namespace Go.Proofs.Ytbofcocfcmlcaaa
open Go.RowKit

def encS (k : Int × Int) : Value := .agg #[.int .i64 k.1, .int .i64 k.2]
theorem encS_inj : ∀ (a b : Int × Int), encS a = encS b → a = b := fun a b h => by
  simp [encS] at h
  exact Prod.ext h.1 h.2

theorem fields_slot : (Try.prog.fieldsOf 119).toList.map (fun f => (f.name == "_", f.type, f.offset)) = [(false, 3, 0), (false, 3, 1)] := by kernel_rfl
theorem under_slot : Try.prog.underlying 119 = some (.struct (Try.prog.fieldsOf 119)) := by kernel_rfl
theorem held_slot : Try.prog.stoodInHeld 119 = false := by kernel_rfl
theorem part_int (xs : Array Value) (i : Nat) (n : Int) (h : xs[i]? = some (.int .i64 n)) (w : World) : (part 3 xs i).run Try.prog w = .ok (.int .i64 n) w :=
  run_part_plain w (by kernel_rfl) h

theorem map_two {α β : Type} {f : α → β} {l : List α} {x y : β} (h : l.map f = [x, y]) : ∃ a b, l = [a, b] ∧ f a = x ∧ f b = y := by
  cases l with
  | nil => simp at h
  | cons a l => cases l with
    | nil => simp at h
    | cons b l => cases l with
      | nil => simp at h; exact ⟨a, b, rfl, h.1, h.2⟩
      | cons c l => simp at h
theorem part_0 (x y : Int) (w : World) : (part 3 #[.int .i64 x, .int .i64 y] 0).run Try.prog w = .ok (.int .i64 x) w := part_int _ 0 x rfl w
theorem part_1 (x y : Int) (w : World) : (part 3 #[.int .i64 x, .int .i64 y] 1).run Try.prog w = .ok (.int .i64 y) w := part_int _ 1 y rfl w
theorem eqIn_int (d : Nat) (n m : Int) (w : World) : (Op.equalIn (d + 1) 3 (.int .i64 n) (.int .i64 m)).run Try.prog w = .ok (n == m) w := run_equalIn_int (P := Try.prog) w d 3 .i64 .i64 n m Try.underlying3

theorem eqFields_slot (d : Nat) (a1 a2 b1 b2 : Int) (w : World) : (Op.eqFields (d + 1) #[.int .i64 a1, .int .i64 a2] #[.int .i64 b1, .int .i64 b2] (Try.prog.fieldsOf 119).toList).run Try.prog w = .ok (a1 == b1 && a2 == b2) w := by
  obtain ⟨f, g, e, hf, hg⟩ := map_two fields_slot
  simp only [Prod.mk.injEq] at hf hg
  obtain ⟨h1, h2, h3⟩ := hf
  obtain ⟨h4, h5, h6⟩ := hg
  rw [e]
  simp only [Op.eqFields, ne_eq, beq_eq_false_iff_ne.1 h1, beq_eq_false_iff_ne.1 h4, not_false_eq_true, if_true, h2, h3, h5, h6, Sem.run_bind, part_0, part_1, eqIn_int, Result.andThen_ok]
  cases hA : a1 == b1 <;> cases hB : a2 == b2 <;> simp [part_0, part_1, eqIn_int, Sem.run_bind, hA, hB]

theorem equal_slot (a b : Int × Int) (w : World) : (Op.equal 119 (encS a) (encS b)).run Try.prog w = .ok (decide (a = b)) w := by
  obtain ⟨a1, a2⟩ := a
  obtain ⟨b1, b2⟩ := b
  unfold Op.equal encS
  rw [show Op.maxDepth = 9998 + 1 + 1 from rfl, run_equalIn_struct w _ _ _ _ under_slot held_slot, eqFields_slot]
  congr 1
  by_cases h1 : a1 = b1 <;> by_cases h2 : a2 = b2 <;> simp [h1, h2]

theorem asking_slot (k : Int × Int) (w : World) : ∀ (es : List (Ent (Int × Int))) (i : Nat), (Instr.findAsking 119 (encS k) (es.map (Ent.raw encS)) i).run Try.prog w = .ok (mfind k es i) w
  | [], i => by simp [Instr.findAsking, mfind]
  | e :: es, i => by
    simp only [List.map_cons, Instr.findAsking, Sem.run_bind, Ent.raw, equal_slot, Result.andThen_ok, mfind]
    by_cases h : k = e.k
    · simp [h]
    · simp only [h, decide_false, Bool.false_eq_true, if_false]
      exact asking_slot k w es (i + 1)

theorem check_int (em : Bool) (d : Nat) (n : Int) (w : World) : (Instr.checkKey em (d + 1) 3 (.int .i64 n)).run Try.prog w = .ok () w := by simp [Instr.checkKey, run_underlying Try.underlying3]
theorem check_slot (em : Bool) (k : Int × Int) (w : World) : (Instr.checkKey em 10000 119 (encS k)).run Try.prog w = .ok () w := by
  obtain ⟨k1, k2⟩ := k
  have hu := run_underlying (P := Try.prog) under_slot w
  unfold encS
  rw [show (10000 : Nat) = 9998 + 1 + 1 from rfl, Instr.checkKey]
  obtain ⟨f, g, e, hf, hg⟩ := map_two fields_slot
  simp only [Prod.mk.injEq] at hf hg
  obtain ⟨h1, h2, h3⟩ := hf
  obtain ⟨h4, h5, h6⟩ := hg
  have e' : Try.prog.fieldsOf 119 = #[f, g] := by rw [← Array.toList_inj, e]
  rw [e'] at hu
  simp only [Sem.run_bind, hu, Result.andThen_ok]
  generalize hd : 9998 + 1 = d
  obtain ⟨d, rfl⟩ : ∃ m, d = m + 1 := ⟨9998, hd.symm⟩
  simp [beq_eq_false_iff_ne.1 h1, beq_eq_false_iff_ne.1 h4, h2, h3, h5, h6, Sem.run_bind, part_0, part_1, check_int]

theorem keyLaw_slot : KeyLaw Try.prog 119 encS where
  check em k w := check_slot em k w
  find k es w := by
    rw [run_findKey_eq w (by rw [under_slot])]
    exact asking_slot k w es 0
  same k := by simp [encS, Instr.sameBits]

end Go.Proofs.Ytbofcocfcmlcaaa
