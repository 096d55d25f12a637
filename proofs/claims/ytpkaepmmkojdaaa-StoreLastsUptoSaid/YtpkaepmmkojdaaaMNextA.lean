import Derived.Test.YtpkaepmmkojdaaaMEql
import Derived.Test.YtpkaepmmkojdaaaMPartL
/-! '==' on what two stores tell: decided. -/
namespace Go.Proofs.Ytpkaepmmkojdaaa
open Go.RowKit

section
variable {P : Program}
/-- Two values whose '==' answers, in any world, whether p holds. -/
def DecAt (P : Program) (d : Nat) (t : TypeId) (u v : Value) (p : Prop) : Prop := ∃ b : Bool, (b = true ↔ p) ∧ ∀ w, (Op.equalIn d t u v).run P w = .ok b w
theorem DecAt.iff {d : Nat} {t : TypeId} {u v : Value} {p q : Prop} (h : DecAt P d t u v p) (hpq : p ↔ q) : DecAt P d t u v q := by
  obtain ⟨b, h1, h2⟩ := h
  exact ⟨b, h1.trans hpq, h2⟩
theorem dec_string {d : Nat} {t : TypeId} (ht : P.underlying t = some .string) (s s' : ByteArray) : DecAt P (d + 1) t (.string s) (.string s') (Value.string s = Value.string s') := by
  refine ⟨s.toList == s'.toList, ?_, fun w => ?_⟩
  · rw [beq_iff_eq]
    refine ⟨fun h => ?_, fun h => by injection h with h; rw [h]⟩
    rw [ByteArray.toList_eq, ByteArray.toList_eq] at h
    obtain ⟨⟨x⟩⟩ := s
    obtain ⟨⟨y⟩⟩ := s'
    simp only at h
    rw [h]
  · simp [Op.equalIn, run_underlying ht, beq_toListBytes]
theorem dec_bool {d : Nat} {t : TypeId} (ht : P.underlying t = some .bool) (s s' : Bool) : DecAt P (d + 1) t (.bool s) (.bool s') (Value.bool s = Value.bool s') := by
  refine ⟨s == s', ?_, fun w => ?_⟩
  · rw [beq_iff_eq]
    exact ⟨fun h => by rw [h], fun h => by injection h⟩
  · simp [Op.equalIn, run_underlying ht]
theorem dec_int {d : Nat} {t : TypeId} {k : IntKind} (ht : P.underlying t = some (.int k)) (s s' : Int) : DecAt P (d + 1) t (.int k s) (.int k s') (Value.int k s = Value.int k s') := by
  refine ⟨s == s', ?_, fun w => ?_⟩
  · rw [beq_iff_eq]
    exact ⟨fun h => by rw [h], fun h => by injection h⟩
  · simp [Op.equalIn, run_underlying ht]
theorem dec_array {d : Nat} {t e : TypeId} {n : Nat} {i : TypeInfo} {xs ys : Array Value} (ht : P.underlying t = some (.array n e)) (hi : P.info? e = some i) (p : Nat → Prop)
    (h : ∀ j, j < n → ∃ u v, (∀ w, (part e xs (j * P.cellsOf e)).run P w = .ok u w) ∧ (∀ w, (part e ys (j * P.cellsOf e)).run P w = .ok v w) ∧ DecAt P d e u v (p j)) : DecAt P (d + 1) t (.agg xs) (.agg ys) (∀ j, j < n → p j) := by
  have key : ∀ l : List Nat, (∀ j ∈ l, j < n) → ∃ b : Bool, (b = true ↔ ∀ j ∈ l, p j) ∧ ∀ w, (Op.eqItems d e (P.cellsOf e) xs ys l).run P w = .ok b w := by
    intro l
    induction l with
    | nil => intro _; exact ⟨true, by simp, fun w => by simp [Op.eqItems]⟩
    | cons j l ih =>
      intro hl
      obtain ⟨u, v, h1, h2, b, hb, hr⟩ := h j (hl j List.mem_cons_self)
      obtain ⟨b', hb', hr'⟩ := ih (fun j hj => hl j (List.mem_cons_of_mem _ hj))
      refine ⟨b && b', ?_, fun w => ?_⟩
      · rw [Bool.and_eq_true, hb, hb', List.forall_mem_cons]
      · cases b <;> simp [Op.eqItems, Sem.run_bind, h1, h2, hr w, hr' w]
  obtain ⟨b, hb, hr⟩ := key (List.range n) (fun j hj => List.mem_range.1 hj)
  exact ⟨b, hb.trans ⟨fun h j hj => h j (List.mem_range.2 hj), fun h j hj => h j (List.mem_range.1 hj)⟩, fun w => by rw [run_equalIn_array w d xs ys ht hi]; exact hr w⟩
theorem dec_struct {d : Nat} {t : TypeId} {xs ys : Array Value} (ht : P.underlying t = some (.struct (P.fieldsOf t))) (hp : P.stoodInHeld t = false) (p : Field → Prop)
    (h : ∀ f ∈ (P.fieldsOf t).toList, f.name ≠ "_" ∧ ∃ u v, (∀ w, (part f.type xs f.offset).run P w = .ok u w) ∧ (∀ w, (part f.type ys f.offset).run P w = .ok v w) ∧ DecAt P d f.type u v (p f)) : DecAt P (d + 1) t (.agg xs) (.agg ys) (∀ f ∈ (P.fieldsOf t).toList, p f) := by
  have key : ∀ fs : List Field, (∀ f ∈ fs, f.name ≠ "_" ∧ ∃ u v, (∀ w, (part f.type xs f.offset).run P w = .ok u w) ∧ (∀ w, (part f.type ys f.offset).run P w = .ok v w) ∧ DecAt P d f.type u v (p f)) → ∃ b : Bool, (b = true ↔ ∀ f ∈ fs, p f) ∧ ∀ w, (Op.eqFields d xs ys fs).run P w = .ok b w := by
    intro fs
    induction fs with
    | nil => intro _; exact ⟨true, by simp, fun w => by simp [Op.eqFields]⟩
    | cons f fs ih =>
      intro hl
      obtain ⟨hn, u, v, h1, h2, b, hb, hr⟩ := hl f List.mem_cons_self
      obtain ⟨b', hb', hr'⟩ := ih (fun j hj => hl j (List.mem_cons_of_mem _ hj))
      refine ⟨b && b', ?_, fun w => ?_⟩
      · rw [Bool.and_eq_true, hb, hb', List.forall_mem_cons]
      · cases b <;> simp [Op.eqFields, Sem.run_bind, hn, h1, h2, hr w, hr' w]
  obtain ⟨b, hb, hr⟩ := key _ h
  exact ⟨b, hb, fun w => by rw [run_equalIn_struct w d t xs ys ht hp]; exact hr w⟩
/-- A row of plain elements. -/
theorem dec_row {d : Nat} {t e : TypeId} {n : Nat} {i : TypeInfo} {xs ys : Array Value} (ht : P.underlying t = some (.array n e)) (hi : P.info? e = some i) (hc : P.cellsOf e = 1) (hpl : ∀ {xs : Array Value} {j : Nat} {v : Value}, xs[j]? = some v → ∀ w, (part e xs j).run P w = .ok v w)
    (h : ∀ j, j < n → ∃ u v, xs[j]? = some u ∧ ys[j]? = some v ∧ DecAt P d e u v (u = v)) : DecAt P (d + 1) t (.agg xs) (.agg ys) (∀ j, j < n → xs[j]? = ys[j]?) := by
  refine dec_array ht hi (fun j => xs[j]? = ys[j]?) (fun j hj => ?_)
  obtain ⟨u, v, h1, h2, h3⟩ := h j hj
  rw [hc, Nat.mul_one]
  exact ⟨u, v, hpl h1, hpl h2, h3.iff (by rw [h1, h2, Option.some.injEq])⟩
theorem run_eql_dec {t : TypeId} {x y : Operand} {o : Oper} {t' : TypeId} {a : Act} {cs ds : Array Value} {b : Bool} (ho : o.op = .binOp .eql t x y t') (hx : a.eval x = .agg cs) (hy : a.eval y = .agg ds) (hg : P.eqGuardType P.depth t = false) (hs : ∀ w, (Op.equalIn Op.maxDepth t (.agg cs) (.agg ds)).run P w = .ok b w) (w : World) :
    (execOp a.eval o).run P w = .ok (.value (.bool b)) w := by
  unfold execOp
  simp [ho, hx, hy, eqGuard, hg, binOp, Sem.run_bind, Op.equal, hs w]
theorem run_neq_dec {t : TypeId} {x y : Operand} {o : Oper} {t' : TypeId} {a : Act} {cs ds : Array Value} {b : Bool} (ho : o.op = .binOp .neq t x y t') (hx : a.eval x = .agg cs) (hy : a.eval y = .agg ds) (hg : P.eqGuardType P.depth t = false) (hs : ∀ w, (Op.equalIn Op.maxDepth t (.agg cs) (.agg ds)).run P w = .ok b w) (w : World) :
    (execOp a.eval o).run P w = .ok (.value (.bool (!b))) w := by
  unfold execOp
  simp [ho, hx, hy, eqGuard, hg, binOp, Sem.run_bind, Op.equal, hs w]
end

theorem dec_6string {d : Nat} {xs ys : Array Value} (hx : StrAt xs 6) (hy : StrAt ys 6) : DecAt Try.prog (d + 2) 32 (.agg xs) (.agg ys) (∀ j, j < 6 → xs[j]? = ys[j]?) := by
  obtain ⟨i, hi, _⟩ := Option.map_eq_some_iff.1 (show (Try.prog.info? 9).map (·.size) = some 1 by kernel_rfl)
  refine dec_row (d := d + 1) Try.underlying32 hi (by kernel_rfl) (fun h w => run_part_plain w (by kernel_rfl) h) (fun j hj => ?_)
  obtain ⟨s, hs⟩ := hx j hj
  obtain ⟨s', hs'⟩ := hy j hj
  exact ⟨_, _, hs, hs', dec_string Try.underlying9 s s'⟩
theorem dec_6bool {d : Nat} {xs ys : Array Value} (hx : BoolAt xs 6) (hy : BoolAt ys 6) : DecAt Try.prog (d + 2) 34 (.agg xs) (.agg ys) (∀ j, j < 6 → xs[j]? = ys[j]?) := by
  obtain ⟨i, hi, _⟩ := Option.map_eq_some_iff.1 (show (Try.prog.info? 4).map (·.size) = some 1 by kernel_rfl)
  refine dec_row (d := d + 1) Try.underlying34 hi (by kernel_rfl) (fun h w => run_part_plain w (by kernel_rfl) h) (fun j hj => ?_)
  obtain ⟨s, hs⟩ := hx j hj
  obtain ⟨s', hs'⟩ := hy j hj
  exact ⟨_, _, hs, hs', dec_bool Try.underlying4 s s'⟩
theorem dec_3bool {d : Nat} {xs ys : Array Value} (hx : BoolAt xs 3) (hy : BoolAt ys 3) : DecAt Try.prog (d + 2) 36 (.agg xs) (.agg ys) (∀ j, j < 3 → xs[j]? = ys[j]?) := by
  obtain ⟨i, hi, _⟩ := Option.map_eq_some_iff.1 (show (Try.prog.info? 4).map (·.size) = some 1 by kernel_rfl)
  refine dec_row (d := d + 1) Try.underlying36 hi (by kernel_rfl) (fun h w => run_part_plain w (by kernel_rfl) h) (fun j hj => ?_)
  obtain ⟨s, hs⟩ := hx j hj
  obtain ⟨s', hs'⟩ := hy j hj
  exact ⟨_, _, hs, hs', dec_bool Try.underlying4 s s'⟩
theorem dec_3int {d : Nat} {xs ys : Array Value} (hx : IntAt xs 3) (hy : IntAt ys 3) : DecAt Try.prog (d + 2) 37 (.agg xs) (.agg ys) (∀ j, j < 3 → xs[j]? = ys[j]?) := by
  obtain ⟨i, hi, _⟩ := Option.map_eq_some_iff.1 (show (Try.prog.info? 3).map (·.size) = some 1 by kernel_rfl)
  refine dec_row (d := d + 1) Try.underlying37 hi (by kernel_rfl) (fun h w => run_part_plain w (by kernel_rfl) h) (fun j hj => ?_)
  obtain ⟨s, hs⟩ := hx j hj
  obtain ⟨s', hs'⟩ := hy j hj
  exact ⟨_, _, hs, hs', dec_int Try.underlying3 s s'⟩
theorem rows_18 {xs ys : Array Value} (hx : 18 ≤ xs.size) (hy : 18 ≤ ys.size) : (∀ j, j < 3 → ∀ k, k < 6 → (xs.extract (j * 6) (j * 6 + 6))[k]? = (ys.extract (j * 6) (j * 6 + 6))[k]?) ↔ ∀ j, j < 18 → xs[j]? = ys[j]? := by
  constructor
  · intro h j hj
    have := h (j / 6) (by omega) (j % 6) (by omega)
    rw [ext_get (by omega) (by omega), ext_get (by omega) (by omega), show j / 6 * 6 + j % 6 = j by omega] at this
    exact this
  · intro h j hj k hk
    rw [ext_get hk (by omega), ext_get hk (by omega)]
    exact h _ (by omega)
theorem dec_36string {d : Nat} {xs ys : Array Value} (sx : 18 ≤ xs.size) (sy : 18 ≤ ys.size) (hx : StrAt xs 18) (hy : StrAt ys 18) : DecAt Try.prog (d + 3) 33 (.agg xs) (.agg ys) (∀ j, j < 18 → xs[j]? = ys[j]?) := by
  obtain ⟨i, hi, _⟩ := Option.map_eq_some_iff.1 (show (Try.prog.info? 32).map (·.size) = some 6 by kernel_rfl)
  refine (dec_array (d := d + 2) Try.underlying33 hi (fun j => ∀ k, k < 6 → (xs.extract (j * 6) (j * 6 + 6))[k]? = (ys.extract (j * 6) (j * 6 + 6))[k]?) (fun j hj => ?_)).iff (rows_18 sx sy)
  rw [show Try.prog.cellsOf 32 = 6 by kernel_rfl]
  refine ⟨_, _, fun w => run_part_agg (n := 6) (fun w => by kernel_rfl) (by kernel_rfl) w, fun w => run_part_agg (n := 6) (fun w => by kernel_rfl) (by kernel_rfl) w, dec_6string (fun k hk => ?_) (fun k hk => ?_)⟩
  · rw [ext_get hk (by omega)]; exact hx _ (by omega)
  · rw [ext_get hk (by omega)]; exact hy _ (by omega)
theorem dec_36bool {d : Nat} {xs ys : Array Value} (sx : 18 ≤ xs.size) (sy : 18 ≤ ys.size) (hx : BoolAt xs 18) (hy : BoolAt ys 18) : DecAt Try.prog (d + 3) 35 (.agg xs) (.agg ys) (∀ j, j < 18 → xs[j]? = ys[j]?) := by
  obtain ⟨i, hi, _⟩ := Option.map_eq_some_iff.1 (show (Try.prog.info? 34).map (·.size) = some 6 by kernel_rfl)
  refine (dec_array (d := d + 2) Try.underlying35 hi (fun j => ∀ k, k < 6 → (xs.extract (j * 6) (j * 6 + 6))[k]? = (ys.extract (j * 6) (j * 6 + 6))[k]?) (fun j hj => ?_)).iff (rows_18 sx sy)
  rw [show Try.prog.cellsOf 34 = 6 by kernel_rfl]
  refine ⟨_, _, fun w => run_part_agg (n := 6) (fun w => by kernel_rfl) (by kernel_rfl) w, fun w => run_part_agg (n := 6) (fun w => by kernel_rfl) (by kernel_rfl) w, dec_6bool (fun k hk => ?_) (fun k hk => ?_)⟩
  · rw [ext_get hk (by omega)]; exact hx _ (by omega)
  · rw [ext_get hk (by omega)]; exact hy _ (by omega)

theorem fields_told_n : (Try.prog.fieldsOf 39).toList.map (fun f => (f.type, f.offset, decide (f.name = "_"))) = [(33, 0, false), (35, 18, false), (36, 36, false), (37, 39, false)] := by kernel_rfl
/-- How many cells a part of what is told takes. -/
def partLen (o : Nat) : Nat := if o = 0 ∨ o = 18 then 18 else 3
theorem dec_told (S S' : St) : DecAt Try.prog Op.maxDepth 39 (.agg (told S)) (.agg (told S')) (told S = told S') := by
  rw [show Op.maxDepth = 9996 + 3 + 1 from rfl]
  have hz := told_size S
  have hz' := told_size S'
  refine (dec_struct (by kernel_rfl) (by kernel_rfl) (fun f => ∀ j, j < partLen f.offset → (told S)[f.offset + j]? = (told S')[f.offset + j]?) (fun f hf => ?_)).iff ?_
  · have hm : (f.type, f.offset, decide (f.name = "_")) ∈ (Try.prog.fieldsOf 39).toList.map (fun f => (f.type, f.offset, decide (f.name = "_"))) := List.mem_map.2 ⟨f, hf, rfl⟩
    rw [fields_told_n] at hm
    simp only [List.mem_cons, Prod.mk.injEq, List.not_mem_nil, or_false] at hm
    have hn : f.name ≠ "_" := fun e => by
      rw [decide_eq_true e] at hm
      rcases hm with ⟨_, _, h⟩ | ⟨_, _, h⟩ | ⟨_, _, h⟩ | ⟨_, _, h⟩ <;> cases h
    refine ⟨hn, ?_⟩
    have hext : ∀ a n, a + n ≤ 42 → ((∀ j, j < n → ((told S).extract a (a + n))[j]? = ((told S').extract a (a + n))[j]?) ↔ ∀ j, j < n → (told S)[a + j]? = (told S')[a + j]?) := fun a n ha => by
      constructor
      · intro h j hj
        have := h j hj
        rwa [ext_get hj (by omega), ext_get hj (by omega)] at this
      · intro h j hj
        rw [ext_get hj (by omega), ext_get hj (by omega)]
        exact h j hj
    rcases hm with ⟨h1, h2, -⟩ | ⟨h1, h2, -⟩ | ⟨h1, h2, -⟩ | ⟨h1, h2, -⟩
    · rw [h1, h2]
      refine ⟨_, _, fun w => run_part_agg (n := 18) (fun w => by kernel_rfl) (by kernel_rfl) w, fun w => run_part_agg (n := 18) (fun w => by kernel_rfl) (by kernel_rfl) w, (dec_36string (by simp; omega) (by simp; omega) (fun j hj => ?_) (fun j hj => ?_)).iff (hext 0 18 (by omega))⟩
      · rw [ext_get hj (by omega), told_get, if_pos (by omega)]; exact ⟨_, rfl⟩
      · rw [ext_get hj (by omega), told_get, if_pos (by omega)]; exact ⟨_, rfl⟩
    · rw [h1, h2]
      refine ⟨_, _, fun w => run_part_agg (n := 18) (fun w => by kernel_rfl) (by kernel_rfl) w, fun w => run_part_agg (n := 18) (fun w => by kernel_rfl) (by kernel_rfl) w, (dec_36bool (by simp; omega) (by simp; omega) (fun j hj => ?_) (fun j hj => ?_)).iff (hext 18 18 (by omega))⟩
      · rw [ext_get hj (by omega), told_get, if_neg (by omega), if_pos (by omega)]; exact ⟨_, rfl⟩
      · rw [ext_get hj (by omega), told_get, if_neg (by omega), if_pos (by omega)]; exact ⟨_, rfl⟩
    · rw [h1, h2]
      refine ⟨_, _, fun w => run_part_agg (n := 3) (fun w => by kernel_rfl) (by kernel_rfl) w, fun w => run_part_agg (n := 3) (fun w => by kernel_rfl) (by kernel_rfl) w, (dec_3bool (d := 9997) (fun j hj => ?_) (fun j hj => ?_)).iff (hext 36 3 (by omega))⟩
      · rw [ext_get hj (by omega), told_get, if_neg (by omega), if_neg (by omega), if_pos (by omega)]; exact ⟨_, rfl⟩
      · rw [ext_get hj (by omega), told_get, if_neg (by omega), if_neg (by omega), if_pos (by omega)]; exact ⟨_, rfl⟩
    · rw [h1, h2]
      refine ⟨_, _, fun w => run_part_agg (n := 3) (fun w => by kernel_rfl) (by kernel_rfl) w, fun w => run_part_agg (n := 3) (fun w => by kernel_rfl) (by kernel_rfl) w, (dec_3int (d := 9997) (fun j hj => ?_) (fun j hj => ?_)).iff (hext 39 3 (by omega))⟩
      · rw [ext_get hj (by omega), told_get, if_neg (by omega), if_neg (by omega), if_neg (by omega), if_pos (by omega)]; exact ⟨_, rfl⟩
      · rw [ext_get hj (by omega), told_get, if_neg (by omega), if_neg (by omega), if_neg (by omega), if_pos (by omega)]; exact ⟨_, rfl⟩
  · have hoff : ∀ o n, (o, n) ∈ [((0 : Nat), (18 : Nat)), (18, 18), (36, 3), (39, 3)] → ∃ f ∈ (Try.prog.fieldsOf 39).toList, f.offset = o ∧ partLen o = n := by
      intro o n ho
      have hex : ∀ z ∈ (Try.prog.fieldsOf 39).toList.map (fun f => (f.type, f.offset, decide (f.name = "_"))), ∃ f ∈ (Try.prog.fieldsOf 39).toList, f.offset = z.2.1 := fun z hz => by
        obtain ⟨f, hf, rfl⟩ := List.mem_map.1 hz
        exact ⟨f, hf, rfl⟩
      rw [fields_told_n] at hex
      simp only [List.mem_cons, Prod.mk.injEq, List.not_mem_nil, or_false] at ho
      rcases ho with ⟨rfl, rfl⟩ | ⟨rfl, rfl⟩ | ⟨rfl, rfl⟩ | ⟨rfl, rfl⟩
      · obtain ⟨f, h1, h2⟩ := hex (33, 0, false) (by simp); exact ⟨f, h1, h2, rfl⟩
      · obtain ⟨f, h1, h2⟩ := hex (35, 18, false) (by simp); exact ⟨f, h1, h2, rfl⟩
      · obtain ⟨f, h1, h2⟩ := hex (36, 36, false) (by simp); exact ⟨f, h1, h2, rfl⟩
      · obtain ⟨f, h1, h2⟩ := hex (37, 39, false) (by simp); exact ⟨f, h1, h2, rfl⟩
    constructor
    · intro h
      have hp : ∀ o n, (o, n) ∈ [((0 : Nat), (18 : Nat)), (18, 18), (36, 3), (39, 3)] → ∀ j, j < n → (told S)[o + j]? = (told S')[o + j]? := fun o n ho j hj => by
        obtain ⟨f, hf, h2, h3⟩ := hoff o n ho
        have := h f hf j (by rw [h2, h3]; exact hj)
        rwa [h2] at this
      apply Array.ext_getElem?
      intro j
      by_cases h1 : j < 18
      · have := hp 0 18 (by simp) j h1; rwa [Nat.zero_add] at this
      by_cases h2 : j < 36
      · have := hp 18 18 (by simp) (j - 18) (by omega); rwa [show 18 + (j - 18) = j by omega] at this
      by_cases h3 : j < 39
      · have := hp 36 3 (by simp) (j - 36) (by omega); rwa [show 36 + (j - 36) = j by omega] at this
      by_cases h4 : j < 42
      · have := hp 39 3 (by simp) (j - 39) (by omega); rwa [show 39 + (j - 39) = j by omega] at this
      · rw [Array.getElem?_eq_none (by omega), Array.getElem?_eq_none (by omega)]
    · intro h f _ j _
      rw [h]
end Go.Proofs.Ytpkaepmmkojdaaa

/-! Package store: next where the first block is nothing. -/
namespace Go.Proofs.Ytpkaepmmkojdaaa
open Go.RowKit
section
variable {W : World} {q : StP} {S : St} {D : Dk}
set_option maxRecDepth 100000 in
set_option maxHeartbeats 1600000 in
theorem store_next_first (h : StAt W q S D) (hoff : D.off = false) (hlt : S.fin < D.texts.length) (hv : D.vers (S.fin : Int) = none) (hp : D.part S.num S.fin = none) :
    Calls Try.prog 15 #[.pointer (some ⟨q.s, 0, none⟩)] W fun e w' => e = .returned (.tuple #[.agg #[.int .i64 0, .int .i64 0, .int .i64 0, .slice none 0 0], .int .i64 0, .bool false]) ∧ Below W.heap.size W w' := by
  obtain ⟨W1, hW1⟩ : ∃ W1, W.alloc (.cells #[.int .i64 0, .int .i64 0, .int .i64 0, .slice none 0 0] 62) = W1 := ⟨_, rfl⟩
  have b1 : Below W.heap.size W W1 := by rw [← hW1]; exact (Below.refl _ W).alloc (Nat.le_refl _) _
  have q0 : Blk W1 W.heap.size #[.int .i64 0, .int .i64 0, .int .i64 0, .slice none 0 0] 62 := by rw [← hW1]; exact Blk.new W _ _
  have h1 := h.keep b1
  have c3 := h1.cell.cell (o := 3) rfl
  go_enter Try.func15, Try.ntmps15
  go_wp2_with fail
  refine (store_part h1 hoff S.fin hlt hv).mono ?_
  rw [hp]
  rintro e W2 ⟨rfl, b2⟩
  have q2 := q0.keep b2
  have b2' := b1.trans (b2.mono b1.size)
  clear b1 b2 q0 h1 c3
  go_wp2_with fail
  go_quiet (fail)
  have k0 := q2.cell (o := 0) rfl
  have k1 := q2.cell (o := 1) rfl
  have k2 := q2.cell (o := 2) rfl
  have k3 := q2.cell (o := 3) rfl
  have l0 := q2.free 0
  have l1 := q2.free 1
  have l2 := q2.free 2
  have l3 := q2.free 3
  have bN : Below W.heap.size W (W2.drewN nq) := below_drewN (B := W.heap.size) b2' nq
  have bS : Below W.heap.size W (((((W2.drewN nq).setCell ⟨W.heap.size, 0, none⟩ (.int .i64 0)).setCell ⟨W.heap.size, 1, none⟩ (.int .i64 0)).setCell ⟨W.heap.size, 2, none⟩ (.int .i64 0)).setCell ⟨W.heap.size, 3, none⟩ (.slice none 0 0)) :=
    (((bN.setCell (p := ⟨W.heap.size, 0, none⟩) (by simp) _).setCell (p := ⟨W.heap.size, 1, none⟩) (by simp) _).setCell (p := ⟨W.heap.size, 2, none⟩) (by simp) _).setCell (p := ⟨W.heap.size, 3, none⟩) (by simp) _
  have qF : Blk (((((W2.drewN nq).setCell ⟨W.heap.size, 0, none⟩ (.int .i64 0)).setCell ⟨W.heap.size, 1, none⟩ (.int .i64 0)).setCell ⟨W.heap.size, 2, none⟩ (.int .i64 0)).setCell ⟨W.heap.size, 3, none⟩ (.slice none 0 0)) W.heap.size #[.int .i64 0, .int .i64 0, .int .i64 0, .slice none 0 0] 62 := by
    have h2 : Blk (W2.drewN nq) W.heap.size #[.int .i64 0, .int .i64 0, .int .i64 0, .slice none 0 0] 62 := q2
    have := (((h2.set (o := 0) (.int .i64 0)).set (o := 1) (.int .i64 0)).set (o := 2) (.int .i64 0)).set (o := 3) (.slice none 0 0)
    simpa using this
  have HS := hid bS
  have HF := hid qF
  clear bS qF bN
  go_wp2_with fail
  have bS := HS.out
  have qF := HF.out
  clear HS HF
  generalize ((((W2.drewN nq).setCell ⟨W.heap.size, 0, none⟩ (.int .i64 0)).setCell ⟨W.heap.size, 1, none⟩ (.int .i64 0)).setCell ⟨W.heap.size, 2, none⟩ (.int .i64 0)).setCell ⟨W.heap.size, 3, none⟩ (.slice none 0 0) = WS at *
  have hld := run_loadVar_row (P := Try.prog) WS W.heap.size 62 62 _ (0, 0) _ qF Try.underlying62 rfl size_entry
  refine bodyPost_ret (v := .tuple #[.agg #[.int .i64 0, .int .i64 0, .int .i64 0, .slice none 0 0], .int .i64 0, .bool false]) ?_ rfl ?_
  · simp [results, Try.results15, hld, asAddr]
  · exact ⟨rfl, bS⟩
end
end Go.Proofs.Ytpkaepmmkojdaaa
