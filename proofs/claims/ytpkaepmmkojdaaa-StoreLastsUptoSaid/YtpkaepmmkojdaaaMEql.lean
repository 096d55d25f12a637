import Derived.Test.YtpkaepmmkojdaaaMCallB
import Derived.Test.YtpkaepmmkojdaaaMSrt
import Derived.Test.YtpkaepmmkojdaaaLook
import Derived.ChangeKeysEq
import Derived.Laws.StructEq
/-! StoreApart: the plain law; two stores side by side in memory. -/
namespace Go.Proofs.Ytpkaepmmkojdaaa
open Go.RowKit

structure Apart (id : Int) (S1 S2 : St) (D1 D2 : Dk) : Prop where
  get : S1.get id = S2.get id
  slots : ∀ k, S1.slots (id, k) = S2.slots (id, k)
  fin : S2.fin ≤ S1.fin
  len1 : D1.texts.length = 200
  len2 : D2.texts.length = 200

theorem wrote_len (D : Dk) (a : Nat) (b : List UInt8) (c d : Nat) : (D.wrote a b c d).synced.texts.length = D.texts.length := by simp [Dk.synced, Dk.wrote]

theorem get_other (S : St) (lo id : Int) (x : Int × Int × Bool) (h : id ≠ lo) : (S.setState lo x).get id = S.get id := by
  unfold St.get St.setState
  simp only [if_neg h]
theorem get_self (S : St) (lo : Int) (x : Int × Int × Bool) : (S.setState lo x).get lo = x := by
  unfold St.get St.setState
  simp

theorem writeF_other {id : Int} {S1 T1 S2 : St} {D1 D2 : Dk} (h : Apart id S1 S2 D1 D2) (hg : T1.get id = S1.get id) (hs : ∀ k, T1.slots (id, k) = S1.slots (id, k)) (kd lo po : Int) (l : List UInt8) :
    Apart id (writeF S1 T1 D1 kd lo po l).2.1 S2 (writeF S1 T1 D1 kd lo po l).2.2 D2 := by
  unfold writeF
  split
  · exact ⟨hg.trans h.get, fun k => (hs k).trans (h.slots k), by have := h.fin; simp only; omega, by simp only [wrote_len]; exact h.len1, h.len2⟩
  · exact h
theorem writeF_same {id : Int} {S1 T1 S2 T2 : St} {D1 D2 : Dk} (h : Apart id S1 S2 D1 D2) (hg : T1.get id = T2.get id) (hs : ∀ k, T1.slots (id, k) = T2.slots (id, k)) (kd lo po : Int) (l : List UInt8) :
    ((writeF S2 T2 D2 kd lo po l).1 = (writeF S1 T1 D1 kd lo po l).1 ∧ Apart id (writeF S1 T1 D1 kd lo po l).2.1 (writeF S2 T2 D2 kd lo po l).2.1 (writeF S1 T1 D1 kd lo po l).2.2 (writeF S2 T2 D2 kd lo po l).2.2) ∨ ((writeF S1 T1 D1 kd lo po l).1 = 7 ∧ (writeF S2 T2 D2 kd lo po l).1 ≠ 7) := by
  have hf := h.fin
  unfold writeF
  rw [h.len1, h.len2]
  by_cases h1 : S1.fin + chunks (entryB kd lo po l) ≤ 200
  · rw [if_pos h1, if_pos (by omega)]
    exact .inl ⟨rfl, hg, hs, by simp only; omega, by simp only [wrote_len]; exact h.len1, by simp only [wrote_len]; exact h.len2⟩
  · rw [if_neg h1]
    by_cases h2 : S2.fin + chunks (entryB kd lo po l) ≤ 200
    · rw [if_pos h2]; exact .inr ⟨rfl, by simp⟩
    · rw [if_neg h2]; exact .inl ⟨rfl, h⟩

theorem apart_other {id : Int} {S1 S2 : St} {D1 D2 : Dk} (h : Apart id S1 S2 D1 D2) (o : Opr) (hne : mod3 o.lo 3 ≠ id) : Apart id (callF S1 D1 o).2.1 S2 (callF S1 D1 o).2.2 D2 := by
  have hne' : id ≠ mod3 o.lo 3 := fun e => hne e.symm
  unfold callF
  split
  · split
    · exact h
    · unfold putF
      split
      · exact h
      split
      · split <;> exact h
      · split
        · exact h
        · refine writeF_other h ?_ (fun k => ?_) _ _ _ _
          · exact get_other _ _ _ _ hne'
          · show (if (id, k) = _ then _ else _) = _
            rw [if_neg (fun e => hne' (congrArg Prod.fst e))]
  split
  · unfold sealF
    split
    · exact h
    · exact writeF_other h (get_other _ _ _ _ hne') (fun _ => rfl) _ _ _ _
  split
  · unfold trimF
    split
    · exact h
    · exact writeF_other h (get_other _ _ _ _ hne') (fun _ => rfl) _ _ _ _
  · exact h

theorem apart_same {id : Int} {S1 S2 : St} {D1 D2 : Dk} (h : Apart id S1 S2 D1 D2) (o : Opr) (he : mod3 o.lo 3 = id) :
    ((callF S2 D2 o).1 = (callF S1 D1 o).1 ∧ Apart id (callF S1 D1 o).2.1 (callF S2 D2 o).2.1 (callF S1 D1 o).2.2 (callF S2 D2 o).2.2) ∨ ((callF S1 D1 o).1 = 7 ∧ (callF S2 D2 o).1 ≠ 7) := by
  subst he
  unfold callF
  split
  · split
    · exact .inl ⟨rfl, h⟩
    · unfold putF
      rw [h.get, h.slots]
      split
      · exact .inl ⟨rfl, h⟩
      split
      · split <;> exact .inl ⟨rfl, h⟩
      · split
        · exact .inl ⟨rfl, h⟩
        · refine writeF_same h ?_ (fun k => ?_) _ _ _ _
          · unfold applyPut
            rw [get_self, get_self, h.get]
          · show (if _ = _ then _ else _) = (if _ = _ then _ else _)
            rw [h.slots k]
  split
  · unfold sealF
    rw [h.get]
    split
    · exact .inl ⟨rfl, h⟩
    · refine writeF_same (T1 := applySeal S1 (mod3 o.lo 3)) (T2 := applySeal S2 (mod3 o.lo 3)) h ?_ h.slots _ _ _ _
      unfold applySeal
      rw [get_self, get_self, h.get]
  split
  · unfold trimF
    rw [h.get]
    split
    · exact .inl ⟨rfl, h⟩
    · refine writeF_same (T1 := applyTrim S1 (mod3 o.lo 3) (mod3 o.po 6)) (T2 := applyTrim S2 (mod3 o.lo 3) (mod3 o.po 6)) h ?_ h.slots _ _ _ _
      unfold applyTrim
      rw [get_self, get_self, h.get]
  · exact .inl ⟨rfl, h⟩

theorem apart_getF {id : Int} {S1 S2 : St} {D1 D2 : Dk} (h : Apart id S1 S2 D1 D2) (k : Int) : getF S1 id k = getF S2 id k := by
  unfold getF
  rw [h.get, h.slots]

/-! ### Two stores -/
structure Two (B : Nat) (W : World) (q1 : StP) (S1 : St) (D1 : Dk) (q2 : StP) (S2 : St) (D2 : Dk) : Prop where
  at1 : StAt W q1 S1 D1
  on1 : On S1 D1
  at2 : StAt W q2 S2 D2
  on2 : On S2 D2
  dis : ∀ b, q1.all b → ¬ q2.all b
  new : ∀ b, q1.all b ∨ q2.all b → B ≤ b
section
variable {B : Nat} {W W' : World} {q1 q1' q2 q2' : StP} {S1 S1' S2 S2' : St} {D1 D1' D2 D2' : Dk}
theorem Two.keep (t : Two B W q1 S1 D1 q2 S2 D2) (h : Below W.heap.size W W') : Two B W' q1 S1 D1 q2 S2 D2 := ⟨t.at1.keep h, t.on1, t.at2.keep h, t.on2, t.dis, t.new⟩
theorem Two.ext {fp : Nat → Prop} (t : Two B W q1 S1 D1 q2 S2 D2) (h : Ext fp W W') (hn : ∀ b, fp b → ¬ (q1.all b ∨ q2.all b)) : Two B W' q1 S1 D1 q2 S2 D2 :=
  ⟨t.at1.ext h (fun b hb hq => hn b hb (.inl hq)), t.on1, t.at2.ext h (fun b hb hq => hn b hb (.inr hq)), t.on2, t.dis, t.new⟩
theorem Two.left (t : Two B W q1 S1 D1 q2 S2 D2) (hB : B ≤ W.heap.size) (h : StAt W' q1' S1' D1') (ho : On S1' D1') (hw : Went q1 q1' W.heap.size) (hx : Ext q1.own W W') : Two B W' q1' S1' D1' q2 S2 D2 :=
  ⟨h, ho, t.at2.ext hx (fun b hb hq => t.dis b (.inl hb) hq), t.on2, fun b hb hq => (hw.2.2.2.2 b hb).elim (fun h => t.dis b h hq) (fun h => by have := t.at2.size hq; omega),
    fun b hb => hb.elim (fun h => (hw.2.2.2.2 b h).elim (fun h => t.new b (.inl h)) (fun h => by omega)) (fun h => t.new b (.inr h))⟩
theorem Two.right (t : Two B W q1 S1 D1 q2 S2 D2) (hB : B ≤ W.heap.size) (h : StAt W' q2' S2' D2') (ho : On S2' D2') (hw : Went q2 q2' W.heap.size) (hx : Ext q2.own W W') : Two B W' q1 S1 D1 q2' S2' D2' :=
  ⟨t.at1.ext hx (fun b hb hq => t.dis b hq (.inl hb)), t.on1, h, ho, fun b hb hq => (hw.2.2.2.2 b hq).elim (fun h => t.dis b hb h) (fun h => by have := t.at1.size hb; omega),
    fun b hb => hb.elim (fun h => t.new b (.inl h)) (fun h => (hw.2.2.2.2 b h).elim (fun h => t.new b (.inr h)) (fun h => by omega))⟩
theorem Two.below1 (t : Two B W q1 S1 D1 q2 S2 D2) (hB : B ≤ W.heap.size) (hx : Ext q1.own W W') : Below B W W' := hx.belowOf hB (fun b hb hc => by have := t.new b (.inl (.inl hc)); omega)
theorem Two.below2 (t : Two B W q1 S1 D1 q2 S2 D2) (hB : B ≤ W.heap.size) (hx : Ext q2.own W W') : Below B W W' := hx.belowOf hB (fun b hb hc => by have := t.new b (.inr (.inl hc)); omega)
end

/-! ### Ops in memory -/
def Opr.cells (o : Opr) (bv lv : Value) : Array Value := #[.int .i64 o.kind, .int .i64 o.lo, .int .i64 o.po, .int .i64 o.n, .bool o.rep, bv, .int .i64 o.size, lv]
def OpAt (w : World) (g f : Nat) (o : Opr) : Prop := ∃ bv lv, (∀ k v, (o.cells bv lv)[k]? = some v → w.cell? ⟨g, f + k, none⟩ = some v) ∧ BsW w bv o.b ∧ Is w lv o.l
def Ops (w : World) (v : Value) (l : List Opr) : Prop := ∃ a c, v = .slice a l.length c ∧ ∀ (i : Nat) o, l[i]? = some o → ∃ g f, a = some ⟨g, f, none⟩ ∧ OpAt w g (f + i * 8) o
theorem OpAt.keep {w w' : World} {g f : Nat} {o : Opr} (h : OpAt w g f o) (hb : Below w.heap.size w w') : OpAt w' g f o := by
  obtain ⟨bv, lv, h1, h2, h3⟩ := h
  exact ⟨bv, lv, fun k v hk => by rw [hb.cell (World.block_lt_of_cell? w _ (h1 k v hk))]; exact h1 k v hk, h2.keep hb, h3.keep hb⟩
theorem OpAt.open_ {w : World} {g f : Nat} {o : Opr} (h : OpAt w g f o) : ∃ bv lv, w.cell? ⟨g, f, none⟩ = some (.int .i64 o.kind) ∧ w.cell? ⟨g, f + 1, none⟩ = some (.int .i64 o.lo) ∧ w.cell? ⟨g, f + 2, none⟩ = some (.int .i64 o.po) ∧ w.cell? ⟨g, f + 3, none⟩ = some (.int .i64 o.n) ∧
    w.cell? ⟨g, f + 4, none⟩ = some (.bool o.rep) ∧ w.cell? ⟨g, f + 5, none⟩ = some bv ∧ w.cell? ⟨g, f + 6, none⟩ = some (.int .i64 o.size) ∧ w.cell? ⟨g, f + 7, none⟩ = some lv ∧ BsW w bv o.b ∧ Is w lv o.l := by
  obtain ⟨bv, lv, h1, h2, h3⟩ := h
  exact ⟨bv, lv, h1 0 _ rfl, h1 1 _ rfl, h1 2 _ rfl, h1 3 _ rfl, h1 4 _ rfl, h1 5 _ rfl, h1 6 _ rfl, h1 7 _ rfl, h2, h3⟩
theorem OpAt.open2 {w w' : World} {g f : Nat} {o : Opr} (h : OpAt w g f o) (hb : Below w.heap.size w w') : ∃ bv lv, w'.cell? ⟨g, f, none⟩ = some (.int .i64 o.kind) ∧ w'.cell? ⟨g, f + 1, none⟩ = some (.int .i64 o.lo) ∧ w'.cell? ⟨g, f + 2, none⟩ = some (.int .i64 o.po) ∧ w'.cell? ⟨g, f + 3, none⟩ = some (.int .i64 o.n) ∧
    w'.cell? ⟨g, f + 4, none⟩ = some (.bool o.rep) ∧ w'.cell? ⟨g, f + 5, none⟩ = some bv ∧ w'.cell? ⟨g, f + 6, none⟩ = some (.int .i64 o.size) ∧ w'.cell? ⟨g, f + 7, none⟩ = some lv ∧ BsW w bv o.b ∧ Is w lv o.l := by
  obtain ⟨bv, lv, h1, h2, h3⟩ := h
  have key : ∀ k v, (o.cells bv lv)[k]? = some v → w'.cell? ⟨g, f + k, none⟩ = some v := fun k v hk => by rw [hb.cell (World.block_lt_of_cell? w _ (h1 k v hk))]; exact h1 k v hk
  exact ⟨bv, lv, key 0 _ rfl, key 1 _ rfl, key 2 _ rfl, key 3 _ rfl, key 4 _ rfl, key 5 _ rfl, key 6 _ rfl, key 7 _ rfl, h2, h3⟩
theorem Ops.keep {w w' : World} {v : Value} {l : List Opr} (h : Ops w v l) (hb : Below w.heap.size w w') : Ops w' v l := by
  obtain ⟨a, c, rfl, hr⟩ := h
  refine ⟨a, c, rfl, fun i x hi => ?_⟩
  obtain ⟨g, o, e, hc⟩ := hr i x hi
  exact ⟨g, o, e, hc.keep hb⟩
end Go.Proofs.Ytpkaepmmkojdaaa

/-! '==' on what a store tells: a value is like itself. -/
namespace Go.Proofs.Ytpkaepmmkojdaaa
open Go.RowKit

section
variable {P : Program}
/-- A value that '==' finds like itself, in any world. -/
def SameAt (P : Program) (d : Nat) (t : TypeId) (v : Value) : Prop := ∀ w, (Op.equalIn d t v v).run P w = .ok true w

theorem same_string {d : Nat} {t : TypeId} (ht : P.underlying t = some .string) (s : ByteArray) : SameAt P (d + 1) t (.string s) := fun w => by
  simp [Op.equalIn, run_underlying ht, beq_toListBytes]
theorem same_bool {d : Nat} {t : TypeId} (ht : P.underlying t = some .bool) (b : Bool) : SameAt P (d + 1) t (.bool b) := fun w => by
  simp [Op.equalIn, run_underlying ht]
theorem same_int {d : Nat} {t : TypeId} {k : IntKind} (ht : P.underlying t = some (.int k)) (n : Int) : SameAt P (d + 1) t (.int k n) := fun w => by
  simp [Op.equalIn, run_underlying ht]
theorem same_array {d : Nat} {t e : TypeId} {n : Nat} {i : TypeInfo} {xs : Array Value} (ht : P.underlying t = some (.array n e)) (hi : P.info? e = some i)
    (h : ∀ j, j < n → ∃ v, (∀ w, (part e xs (j * P.cellsOf e)).run P w = .ok v w) ∧ SameAt P d e v) : SameAt P (d + 1) t (.agg xs) := fun w => by
  rw [run_equalIn_array w d xs xs ht hi]
  have key : ∀ l : List Nat, (∀ j ∈ l, j < n) → (Op.eqItems d e (P.cellsOf e) xs xs l).run P w = .ok true w := by
    intro l
    induction l with
    | nil => intro _; simp [Op.eqItems]
    | cons j l ih =>
      intro hl
      obtain ⟨v, h1, h2⟩ := h j (hl j List.mem_cons_self)
      simp [Op.eqItems, Sem.run_bind, h1, h2 w, ih (fun j hj => hl j (List.mem_cons_of_mem _ hj))]
  exact key _ (fun j hj => List.mem_range.1 hj)
theorem same_struct {d : Nat} {t : TypeId} {xs : Array Value} (ht : P.underlying t = some (.struct (P.fieldsOf t))) (hp : P.stoodInHeld t = false)
    (h : ∀ f ∈ (P.fieldsOf t).toList, ∃ v, (∀ w, (part f.type xs f.offset).run P w = .ok v w) ∧ SameAt P d f.type v) : SameAt P (d + 1) t (.agg xs) := fun w => by
  rw [run_equalIn_struct w d t xs xs ht hp]
  generalize (P.fieldsOf t).toList = fs at h
  induction fs with
  | nil => simp [Op.eqFields]
  | cons f fs ih =>
    obtain ⟨v, h1, h2⟩ := h f List.mem_cons_self
    have := ih (fun f hf => h f (List.mem_cons_of_mem _ hf))
    by_cases hn : f.name = "_"
    · simp [Op.eqFields, Sem.run_bind, hn, this]
    · simp [Op.eqFields, Sem.run_bind, hn, h1, h2 w, this]

theorem run_part_agg {e : TypeId} {xs : Array Value} {off : Nat} {n : Nat} (ha : ∀ w, (isAgg e).run P w = .ok true w) (hs : (P.info? e).map (·.size) = some n) (w : World) : (part e xs off).run P w = .ok (.agg (xs.extract off (off + n))) w := by
  obtain ⟨i, hi, he⟩ := Option.map_eq_some_iff.1 hs
  simp [part, Sem.run_bind, ha, sizeOf, typeInfo, hi, he]

theorem run_eql_same {t : TypeId} {x y : Operand} {o : Oper} {t' : TypeId} {a : Act} {cs : Array Value} (ho : o.op = .binOp .eql t x y t') (hx : a.eval x = .agg cs) (hy : a.eval y = .agg cs) (hg : P.eqGuardType P.depth t = false) (hs : SameAt P Op.maxDepth t (.agg cs)) (w : World) :
    (execOp a.eval o).run P w = .ok (.value (.bool true)) w := by
  unfold execOp
  simp [ho, hx, hy, eqGuard, hg, binOp, Sem.run_bind, Op.equal, hs w]
theorem run_neq_same {t : TypeId} {x y : Operand} {o : Oper} {t' : TypeId} {a : Act} {cs : Array Value} (ho : o.op = .binOp .neq t x y t') (hx : a.eval x = .agg cs) (hy : a.eval y = .agg cs) (hg : P.eqGuardType P.depth t = false) (hs : SameAt P Op.maxDepth t (.agg cs)) (w : World) :
    (execOp a.eval o).run P w = .ok (.value (.bool false)) w := by
  unfold execOp
  simp [ho, hx, hy, eqGuard, hg, binOp, Sem.run_bind, Op.equal, hs w]
end

/-! ### The parts of what is told -/
def StrAt (cs : Array Value) (n : Nat) : Prop := ∀ j, j < n → ∃ s, cs[j]? = some (.string s)
def BoolAt (cs : Array Value) (n : Nat) : Prop := ∀ j, j < n → ∃ b, cs[j]? = some (.bool b)
def IntAt (cs : Array Value) (n : Nat) : Prop := ∀ j, j < n → ∃ b, cs[j]? = some (.int .i64 b)

theorem same_6string {d : Nat} {cs : Array Value} (h : StrAt cs 6) : SameAt Try.prog (d + 2) 32 (.agg cs) := by
  obtain ⟨i, hi, _⟩ := Option.map_eq_some_iff.1 (show (Try.prog.info? 9).map (·.size) = some 1 by kernel_rfl)
  refine same_array (d := d + 1) Try.underlying32 hi (fun j hj => ?_)
  obtain ⟨s, hs⟩ := h j hj
  rw [show Try.prog.cellsOf 9 = 1 by kernel_rfl, Nat.mul_one]
  exact ⟨_, fun w => run_part_plain w (by kernel_rfl) hs, same_string Try.underlying9 s⟩
theorem same_6bool {d : Nat} {cs : Array Value} (h : BoolAt cs 6) : SameAt Try.prog (d + 2) 34 (.agg cs) := by
  obtain ⟨i, hi, _⟩ := Option.map_eq_some_iff.1 (show (Try.prog.info? 4).map (·.size) = some 1 by kernel_rfl)
  refine same_array (d := d + 1) Try.underlying34 hi (fun j hj => ?_)
  obtain ⟨s, hs⟩ := h j hj
  rw [show Try.prog.cellsOf 4 = 1 by kernel_rfl, Nat.mul_one]
  exact ⟨_, fun w => run_part_plain w (by kernel_rfl) hs, same_bool Try.underlying4 s⟩
theorem same_3bool {d : Nat} {cs : Array Value} (h : BoolAt cs 3) : SameAt Try.prog (d + 2) 36 (.agg cs) := by
  obtain ⟨i, hi, _⟩ := Option.map_eq_some_iff.1 (show (Try.prog.info? 4).map (·.size) = some 1 by kernel_rfl)
  refine same_array (d := d + 1) Try.underlying36 hi (fun j hj => ?_)
  obtain ⟨s, hs⟩ := h j hj
  rw [show Try.prog.cellsOf 4 = 1 by kernel_rfl, Nat.mul_one]
  exact ⟨_, fun w => run_part_plain w (by kernel_rfl) hs, same_bool Try.underlying4 s⟩
theorem same_3int {d : Nat} {cs : Array Value} (h : IntAt cs 3) : SameAt Try.prog (d + 2) 37 (.agg cs) := by
  obtain ⟨i, hi, _⟩ := Option.map_eq_some_iff.1 (show (Try.prog.info? 3).map (·.size) = some 1 by kernel_rfl)
  refine same_array (d := d + 1) Try.underlying37 hi (fun j hj => ?_)
  obtain ⟨s, hs⟩ := h j hj
  rw [show Try.prog.cellsOf 3 = 1 by kernel_rfl, Nat.mul_one]
  exact ⟨_, fun w => run_part_plain w (by kernel_rfl) hs, same_int Try.underlying3 s⟩
theorem ext_get {cs : Array Value} {a n j : Nat} (hj : j < n) (hs : a + n ≤ cs.size) : (cs.extract a (a + n))[j]? = cs[a + j]? := by
  rw [Array.getElem?_extract_of_lt (by omega), Array.getElem?_eq_getElem]
theorem same_36string {d : Nat} {cs : Array Value} (hs : 18 ≤ cs.size) (h : StrAt cs 18) : SameAt Try.prog (d + 3) 33 (.agg cs) := by
  obtain ⟨i, hi, _⟩ := Option.map_eq_some_iff.1 (show (Try.prog.info? 32).map (·.size) = some 6 by kernel_rfl)
  refine same_array (d := d + 2) Try.underlying33 hi (fun j hj => ?_)
  rw [show Try.prog.cellsOf 32 = 6 by kernel_rfl]
  refine ⟨_, fun w => run_part_agg (n := 6) (fun w => by kernel_rfl) (by kernel_rfl) w, same_6string (fun k hk => ?_)⟩
  rw [ext_get hk (by omega)]
  exact h _ (by omega)
theorem same_36bool {d : Nat} {cs : Array Value} (hs : 18 ≤ cs.size) (h : BoolAt cs 18) : SameAt Try.prog (d + 3) 35 (.agg cs) := by
  obtain ⟨i, hi, _⟩ := Option.map_eq_some_iff.1 (show (Try.prog.info? 34).map (·.size) = some 6 by kernel_rfl)
  refine same_array (d := d + 2) Try.underlying35 hi (fun j hj => ?_)
  rw [show Try.prog.cellsOf 34 = 6 by kernel_rfl]
  refine ⟨_, fun w => run_part_agg (n := 6) (fun w => by kernel_rfl) (by kernel_rfl) w, same_6bool (fun k hk => ?_)⟩
  rw [ext_get hk (by omega)]
  exact h _ (by omega)

theorem fields_told : (Try.prog.fieldsOf 39).toList.map (fun f => (f.type, f.offset)) = [(33, 0), (35, 18), (36, 36), (37, 39)] := by kernel_rfl
theorem same_told (S : St) : SameAt Try.prog Op.maxDepth 39 (.agg (told S)) := by
  rw [show Op.maxDepth = 9996 + 3 + 1 from rfl]
  refine same_struct (by kernel_rfl) (by kernel_rfl) (fun f hf => ?_)
  have hm : (f.type, f.offset) ∈ (Try.prog.fieldsOf 39).toList.map (fun f => (f.type, f.offset)) := List.mem_map.2 ⟨f, hf, rfl⟩
  have hsz := told_size S
  rw [fields_told] at hm
  simp only [List.mem_cons, Prod.mk.injEq, List.not_mem_nil, or_false] at hm
  rcases hm with ⟨h1, h2⟩ | ⟨h1, h2⟩ | ⟨h1, h2⟩ | ⟨h1, h2⟩
  · rw [h1, h2]
    refine ⟨_, fun w => run_part_agg (n := 18) (fun w => by kernel_rfl) (by kernel_rfl) w, same_36string (by simp; omega) (fun j hj => ?_)⟩
    rw [ext_get hj (by omega), told_get, if_pos (by omega)]
    exact ⟨_, rfl⟩
  · rw [h1, h2]
    refine ⟨_, fun w => run_part_agg (n := 18) (fun w => by kernel_rfl) (by kernel_rfl) w, same_36bool (by simp; omega) (fun j hj => ?_)⟩
    rw [ext_get hj (by omega), told_get, if_neg (by omega), if_pos (by omega)]
    exact ⟨_, rfl⟩
  · rw [h1, h2]
    refine ⟨_, fun w => run_part_agg (n := 3) (fun w => by kernel_rfl) (by kernel_rfl) w, same_3bool (d := 9997) (fun j hj => ?_)⟩
    rw [ext_get hj (by omega), told_get, if_neg (by omega), if_neg (by omega), if_pos (by omega)]
    exact ⟨_, rfl⟩
  · rw [h1, h2]
    refine ⟨_, fun w => run_part_agg (n := 3) (fun w => by kernel_rfl) (by kernel_rfl) w, same_3int (d := 9997) (fun j hj => ?_)⟩
    rw [ext_get hj (by omega), told_get, if_neg (by omega), if_neg (by omega), if_neg (by omega), if_pos (by omega)]
    exact ⟨_, rfl⟩
theorem guard_told : Try.prog.eqGuardType Try.prog.depth 39 = false := by kernel_rfl
theorem guard_6string : Try.prog.eqGuardType Try.prog.depth 32 = false := by kernel_rfl
theorem guard_6bool : Try.prog.eqGuardType Try.prog.depth 34 = false := by kernel_rfl
end Go.Proofs.Ytpkaepmmkojdaaa
