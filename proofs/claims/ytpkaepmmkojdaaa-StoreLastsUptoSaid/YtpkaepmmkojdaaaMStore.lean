import Derived.Test.YtpkaepmmkojdaaaSync
import Derived.Test.YtpkaepmmkojdaaaMap
import Derived.Laws.StructEq
import Derived.WideKeyRuns
import Derived.Test.YtpkaepmmkojdaaaEntry
import Derived.BigQuiet
/-! Package disk, on: Read. -/
namespace Go.Proofs.Ytpkaepmmkojdaaa
open Go.RowKit

theorem zc143 : Try.zeroCells78.size = 256 := by kernel_rfl
theorem cells_size (t : List UInt8) (h : t.length = 256) : (t.map bv).toArray.size = 256 := by simp [h]
theorem cells_all (t : List UInt8) : (t.map bv).toArray.all (·.oneCell') = true := by
  rw [Array.all_eq_true_iff_forall_mem]
  intro v hv
  simp only [List.mem_toArray, List.mem_map] at hv
  obtain ⟨b, _, rfl⟩ := hv
  rfl
theorem bs_row {W : World} {g : Nat} {ty : TypeId} {t : List UInt8} (h : Blk W g (t.map bv).toArray ty) (ht : t.length = 256) : Bs W (.slice (some ⟨g, 0, none⟩) 256 256) t :=
  Bs.mk ht (Nat.le_refl _) (by simp [maxLen]) (fun i u hi => h.cell (by simp [hi]))

section
variable {W : World} {p : DkP} {D : Dk}

set_option maxRecDepth 100000 in
set_option maxHeartbeats 1600000 in
theorem disk_Read_text (h : DkAt W p D) (hoff : D.off = false) (kk : Nat) (t : List UInt8) (hv : D.vers (kk : Int) = none) (hbad : D.bad (kk : Int) = false) (ht : D.texts[kk]? = some t) :
    Calls Try.prog 17 #[.pointer (some ⟨p.d, 0, none⟩), .int .i64 (kk : Int)] W fun e w' => ∃ g, e = .returned (.tuple #[.slice (some ⟨g, 0, none⟩) 256 256, .int .i64 0]) ∧ W.heap.size ≤ g ∧ Bs w' (.slice (some ⟨g, 0, none⟩) 256 256) t ∧ Below W.heap.size W w' := by
  have hlt : kk < D.texts.length := (List.getElem?_eq_some_iff.1 ht).1
  have htl := h.lens t (List.mem_of_getElem? ht)
  have hd1 : decide ((kk : Int) < 0) = false := by simp
  have hd2 : decide ((kk : Int) ≥ (D.texts.length : Int)) = false := by simp; omega
  have hra := h.rows kk t ht
  have c0 := h.cell.cell (o := 0) rfl
  have c3 := h.cell.cell (o := 3) rfl
  rw [hoff] at c3
  have hB := Blk.new W Try.zeroCells78 78
  have hB' := hB.setRow (t.map bv).toArray
  have hb : Below W.heap.size W ((W.alloc (.cells Try.zeroCells78 78)).setRow W.heap.size (t.map bv).toArray) := ((Below.refl _ W).alloc (Nat.le_refl _) _).grown (setRow_grown _ _ _) (by simp) (fun k h => by cases h; exact Nat.le_refl _)
  have hsz := cells_size t htl
  have hall := cells_all t
  obtain ⟨es, c, hm, hes, hev⟩ := (h.keep hb).vers
  have hno : mhas es (kk : Int) = false := by rw [← hes, hv]; rfl
  have hlk := run_lookup_raw (P := Try.prog) (keyLaw_int Try.underlying3) hm Try.underlying53 (kk : Int) (z := .slice none 0 0) (fun w => by kernel_rfl) false
  rw [mget_none hno] at hlk
  simp only [Bool.false_eq_true, if_false, Option.getD_none, encI] at hlk
  obtain ⟨esb, cb, hmb, hrb, hvb⟩ := (h.keep hb).bads
  have hnob : mhas esb (kk : Int) = false := by rw [← hrb, hbad]
  have hlkb := run_lookup_raw (P := Try.prog) (keyLaw_int Try.underlying3) hmb Try.underlying52 (kk : Int) (z := .bool false) (fun w => by kernel_rfl) false
  rw [mget_none hnob] at hlkb
  simp only [Bool.false_eq_true, if_false, Option.getD_none, encI] at hlkb
  have c2' := (h.keep hb).cell.cell (o := 2) rfl
  have c1' := (h.keep hb).cell.cell (o := 1) rfl
  have hbs := bs_row hB' htl
  clear hes hev hrb hvb hmb hm
  go_enter Try.func17, Try.ntmps17
  go_wp2_with fail
  refine (disk_none h).mono ?_
  rintro e W1 ⟨rfl, rfl⟩
  go_wp2_with (first | (refine wpList_load_mid rfl 78 _ rfl p.gt (256 * kk) ?_ (t.map bv) _ hra Try.underlying78 rfl (by rw [List.length_map, htl]; exact size_text) ?_) | (refine wpList_store_row rfl 78 _ _ rfl W1.heap.size (t.map bv).toArray rfl rfl 78 _ hB (by rw [hsz]; exact size_text) (by rw [hsz]; exact zc143) hall ?_))
  · show Value.pointer (some ⟨p.gt, kk * 256, none⟩) = _
    rw [Nat.mul_comm]
  · go_ret2
    exact ⟨_, rfl, Nat.le_refl _, hbs, hb⟩

set_option maxHeartbeats 800000 in
theorem disk_Read_off (h : DkAt W p D) (hoff : D.off = true) (kk : Nat) (hlt : kk < D.texts.length) :
    Calls Try.prog 17 #[.pointer (some ⟨p.d, 0, none⟩), .int .i64 (kk : Int)] W fun e w' => e = .returned (.tuple #[.slice none 0 0, .int .i64 8]) ∧ w' = W := by
  have hd1 : decide ((kk : Int) < 0) = false := by simp
  have hd2 : decide ((kk : Int) ≥ (D.texts.length : Int)) = false := by simp; omega
  have c0 := h.cell.cell (o := 0) rfl
  have c3 := h.cell.cell (o := 3) rfl
  rw [hoff] at c3
  go_enter Try.func17, Try.ntmps17
  go_wp2_with fail
  refine (disk_none h).mono ?_
  rintro e W1 ⟨rfl, rfl⟩
  go_wp2_with fail
  go_ret2
  exact ⟨rfl, rfl⟩
end

end Go.Proofs.Ytpkaepmmkojdaaa

/-! Maps whose keys are slots: a struct of two ints. -/
namespace Go.Proofs.Ytpkaepmmkojdaaa
open Go.RowKit

def encS (k : Int × Int) : Value := .agg #[.int .i64 k.1, .int .i64 k.2]
theorem encS_inj : ∀ (a b : Int × Int), encS a = encS b → a = b := fun a b h => by
  simp [encS] at h
  exact Prod.ext h.1 h.2

theorem fields_slot : (Try.prog.fieldsOf 96).toList.map (fun f => (f.name == "_", f.type, f.offset)) = [(false, 3, 0), (false, 3, 1)] := by kernel_rfl
theorem under_slot : Try.prog.underlying 96 = some (.struct (Try.prog.fieldsOf 96)) := by kernel_rfl
theorem held_slot : Try.prog.stoodInHeld 96 = false := by kernel_rfl
theorem part_int (xs : Array Value) (i : Nat) (n : Int) (h : xs[i]? = some (.int .i64 n)) (w : World) : (part 3 xs i).run Try.prog w = .ok (.int .i64 n) w :=
  run_part_plain w (by kernel_rfl) h

theorem map_two {α β : Type} {f : α → β} {l : List α} {x y : β} (h : l.map f = [x, y]) : ∃ a b, l = [a, b] ∧ f a = x ∧ f b = y := by
  cases l with
  | nil => simp at h
  | cons a l => cases l with
    | nil => simp at h
    | cons b l => cases l with
      | nil => simp at h; exact ⟨a, b, rfl, h.1, h.2⟩
      | cons c l => simp at h
theorem part_0 (x y : Int) (w : World) : (part 3 #[.int .i64 x, .int .i64 y] 0).run Try.prog w = .ok (.int .i64 x) w := part_int _ 0 x rfl w
theorem part_1 (x y : Int) (w : World) : (part 3 #[.int .i64 x, .int .i64 y] 1).run Try.prog w = .ok (.int .i64 y) w := part_int _ 1 y rfl w
theorem eqIn_int (d : Nat) (n m : Int) (w : World) : (Op.equalIn (d + 1) 3 (.int .i64 n) (.int .i64 m)).run Try.prog w = .ok (n == m) w := run_equalIn_int (P := Try.prog) w d 3 .i64 .i64 n m Try.underlying3

theorem eqFields_slot (d : Nat) (a1 a2 b1 b2 : Int) (w : World) : (Op.eqFields (d + 1) #[.int .i64 a1, .int .i64 a2] #[.int .i64 b1, .int .i64 b2] (Try.prog.fieldsOf 96).toList).run Try.prog w = .ok (a1 == b1 && a2 == b2) w := by
  obtain ⟨f, g, e, hf, hg⟩ := map_two fields_slot
  simp only [Prod.mk.injEq] at hf hg
  obtain ⟨h1, h2, h3⟩ := hf
  obtain ⟨h4, h5, h6⟩ := hg
  rw [e]
  simp only [Op.eqFields, ne_eq, beq_eq_false_iff_ne.1 h1, beq_eq_false_iff_ne.1 h4, not_false_eq_true, if_true, h2, h3, h5, h6, Sem.run_bind, part_0, part_1, eqIn_int, Result.andThen_ok]
  cases hA : a1 == b1 <;> cases hB : a2 == b2 <;> simp [part_0, part_1, eqIn_int, Sem.run_bind, hA, hB]

theorem equal_slot (a b : Int × Int) (w : World) : (Op.equal 96 (encS a) (encS b)).run Try.prog w = .ok (decide (a = b)) w := by
  obtain ⟨a1, a2⟩ := a
  obtain ⟨b1, b2⟩ := b
  unfold Op.equal encS
  rw [show Op.maxDepth = 9998 + 1 + 1 from rfl, run_equalIn_struct w _ _ _ _ under_slot held_slot, eqFields_slot]
  congr 1
  by_cases h1 : a1 = b1 <;> by_cases h2 : a2 = b2 <;> simp [h1, h2]

theorem asking_slot (k : Int × Int) (w : World) : ∀ (es : List (Ent (Int × Int))) (i : Nat), (Instr.findAsking 96 (encS k) (es.map (Ent.raw encS)) i).run Try.prog w = .ok (mfind k es i) w
  | [], i => by simp [Instr.findAsking, mfind]
  | e :: es, i => by
    simp only [List.map_cons, Instr.findAsking, Sem.run_bind, Ent.raw, equal_slot, Result.andThen_ok, mfind]
    by_cases h : k = e.k
    · simp [h]
    · simp only [h, decide_false, Bool.false_eq_true, if_false]
      exact asking_slot k w es (i + 1)

theorem check_int (em : Bool) (d : Nat) (n : Int) (w : World) : (Instr.checkKey em (d + 1) 3 (.int .i64 n)).run Try.prog w = .ok () w := by simp [Instr.checkKey, run_underlying Try.underlying3]
theorem check_slot (em : Bool) (k : Int × Int) (w : World) : (Instr.checkKey em 10000 96 (encS k)).run Try.prog w = .ok () w := by
  obtain ⟨k1, k2⟩ := k
  have hu := run_underlying (P := Try.prog) under_slot w
  unfold encS
  rw [show (10000 : Nat) = 9998 + 1 + 1 from rfl, Instr.checkKey]
  obtain ⟨f, g, e, hf, hg⟩ := map_two fields_slot
  simp only [Prod.mk.injEq] at hf hg
  obtain ⟨h1, h2, h3⟩ := hf
  obtain ⟨h4, h5, h6⟩ := hg
  have e' : Try.prog.fieldsOf 96 = #[f, g] := by rw [← Array.toList_inj, e]
  rw [e'] at hu
  simp only [Sem.run_bind, hu, Result.andThen_ok]
  generalize hd : 9998 + 1 = d
  obtain ⟨d, rfl⟩ : ∃ m, d = m + 1 := ⟨9998, hd.symm⟩
  simp [beq_eq_false_iff_ne.1 h1, beq_eq_false_iff_ne.1 h4, h2, h3, h5, h6, Sem.run_bind, part_0, part_1, check_int]

theorem keyLaw_slot : KeyLaw Try.prog 96 encS where
  check em k w := check_slot em k w
  find k es w := by
    rw [run_findKey_eq w (by rw [under_slot])]
    exact asking_slot k w es 0
  same k := by simp [encS, Instr.sameBits]

end Go.Proofs.Ytpkaepmmkojdaaa

/-! Package store: what lies in memory; the walks of the small functions. -/
namespace Go.Proofs.Ytpkaepmmkojdaaa
open Go.RowKit

/-- A store: slots, loglets' states (tail, trim, sealed), its end, its entries' number. -/
structure St where
  slots : Int × Int → Option (List UInt8)
  states : Int → Option (Int × Int × Bool)
  fin : Nat
  num : Nat
  fallen : Bool

/-- Where it lies; U: the blocks of its slots' data. -/
structure StP where
  s : Nat
  ms : Nat
  mt : Nat
  p : DkP
  U : Nat → Prop

def StP.own (q : StP) (b : Nat) : Prop := b = q.s ∨ b = q.ms ∨ b = q.mt ∨ q.p.own b
def StP.all (q : StP) (b : Nat) : Prop := q.own b ∨ q.U b ∨ q.p.V b

def DatAt (W : World) (U : Nat → Prop) (v : Value) (l : List UInt8) : Prop := Bs W v l ∧ ∀ g, v.ownBlock = some g → U g

structure StAt (W : World) (q : StP) (S : St) (D : Dk) : Prop where
  cell : Blk W q.s #[.pointer (some ⟨q.p.d, 0, none⟩), .map (some q.ms), .map (some q.mt), .int .i64 (S.fin : Int), .int .i64 (S.num : Int), .bool S.fallen] 60
  disk : DkAt W q.p D
  slots : ∃ es c, MapAt W q.ms encS es c ∧ (∀ k, (S.slots k).isSome = mhas es k) ∧ ∀ e ∈ es, ∃ l, S.slots e.k = some l ∧ DatAt W q.U e.v l ∧ l.length ≤ 65536
  states : ∃ es c, MapAt W q.mt encI es c ∧ (∀ k, (S.states k).isSome = mhas es k) ∧ ∀ e ∈ es, ∃ tl tr sl, S.states e.k = some (tl, tr, sl) ∧ e.v = .agg #[.int .i64 tl, .int .i64 tr, .bool sl] ∧ 0 ≤ tl ∧ tl ≤ 281474976710656 ∧ 0 ≤ tr ∧ tr ≤ 281474976710656
  ne : q.s ≠ q.ms ∧ q.s ≠ q.mt ∧ q.ms ≠ q.mt ∧ ¬ q.p.all q.s ∧ ¬ q.p.all q.ms ∧ ¬ q.p.all q.mt
  data : ∀ b, q.U b → ¬ (b = q.s ∨ b = q.ms ∨ b = q.mt) ∧ ¬ q.p.all b
  lt : ∀ b, q.U b → b < W.heap.size
  bound : S.fin ≤ D.texts.length ∧ S.num ≤ S.fin

theorem DatAt.ext {fp : Nat → Prop} {W W' : World} {U : Nat → Prop} {v : Value} {l : List UInt8} (h : DatAt W U v l) (he : Ext fp W W') (hn : ∀ b, fp b → ¬ U b) : DatAt W' U v l :=
  ⟨h.1.ext he (fun g hg _ hf => hn g hf (h.2 g hg)), h.2⟩

theorem StAt.ext {fp : Nat → Prop} {W W' : World} {q : StP} {S : St} {D : Dk} (h : StAt W q S D) (he : Ext fp W W') (hn : ∀ b, fp b → ¬ q.all b) : StAt W' q S D where
  cell := h.cell.ext he (fun hf => hn _ hf (.inl (.inl rfl)))
  disk := h.disk.extAll he (fun b hf hp => hn b hf (by
    rcases hp with hp | hp
    · exact .inl (.inr (.inr (.inr hp)))
    · exact .inr (.inr hp)))
  slots := by
    obtain ⟨es, c, hm, hr, hv⟩ := h.slots
    refine ⟨es, c, hm.ext he (fun hf => hn _ hf (.inl (.inr (.inl rfl)))), hr, fun e hm => ?_⟩
    obtain ⟨l, q1, q2, q3⟩ := hv e hm
    exact ⟨l, q1, q2.ext he (fun b hf hu => hn b hf (.inr (.inl hu))), q3⟩
  states := by obtain ⟨es, c, hm, hr⟩ := h.states; exact ⟨es, c, hm.ext he (fun hf => hn _ hf (.inl (.inr (.inr (.inl rfl))))), hr⟩
  ne := h.ne
  data := h.data
  lt := fun b hb => Nat.lt_of_lt_of_le (h.lt b hb) he.size
  bound := h.bound
theorem StAt.keep {W W' : World} {q : StP} {S : St} {D : Dk} (h : StAt W q S D) (hb : Below W.heap.size W W') : StAt W' q S D := h.ext (fp := nofp) (Ext.ofBelow hb) (fun _ h => h.elim)
theorem StAt.size {W : World} {q : StP} {S : St} {D : Dk} (h : StAt W q S D) {b : Nat} (hb : q.all b) : b < W.heap.size := by
  rcases hb with (rfl | rfl | rfl | hb) | hb | hb
  · exact h.cell.lt
  · obtain ⟨_, _, hm, _⟩ := h.slots; exact hm.lt
  · obtain ⟨_, _, hm, _⟩ := h.states; exact hm.lt
  · exact h.disk.lt (.inl hb)
  · exact h.lt b hb
  · exact h.disk.lt (.inr hb)

section
variable {W : World} {q : StP} {S : St} {D : Dk}

set_option maxHeartbeats 800000 in
theorem store_none (h : StAt W q S D) : Calls Try.prog 45 #[.pointer (some ⟨q.s, 0, none⟩)] W fun e w' => e = .returned (.bool false) ∧ w' = W := by
  have c0 := h.cell.cell (o := 0) rfl
  go_enter Try.func45, Try.ntmps45
  go_wp2_with fail
  go_ret
  exact ⟨rfl, rfl⟩

set_option maxHeartbeats 800000 in
theorem store_Free (h : StAt W q S D) : Calls Try.prog 23 #[.pointer (some ⟨q.s, 0, none⟩)] W fun e w' => e = .returned (.int .i64 ((D.texts.length - S.fin : Nat) : Int)) ∧ Below W.heap.size W w' := by
  have c0 := h.cell.cell (o := 0) rfl
  have c3 := h.cell.cell (o := 3) rfl
  have hb := h.bound.1
  have hsub : ((D.texts.length : Int) - (S.fin : Int)) = ((D.texts.length - S.fin : Nat) : Int) := by omega
  have hmost := h.disk.most
  go_enter Try.func23, Try.ntmps23
  go_wp2_with fail
  refine (store_none h).mono ?_
  rintro e W1 ⟨rfl, rfl⟩
  go_wp2_with fail
  go_quiet ((go_at_call 13; exact Calls.quiet_of_same (disk_Blocks (h.disk.keep (below_of_drewN _ _ _)))))
  go_wp2_with fail
  go_ret
  exact ⟨rfl, below_of_drewN _ _ _⟩

set_option maxHeartbeats 800000 in
theorem store_down (h : StAt W q S D) : Calls Try.prog 43 #[.pointer (some ⟨q.s, 0, none⟩)] W fun e w' => e = .returned (.bool (S.fallen || D.off)) ∧ Below W.heap.size W w' := by
  have c0 := h.cell.cell (o := 0) rfl
  have c5 := h.cell.cell (o := 5) rfl
  go_enter Try.func43, Try.ntmps43
  cases hf : S.fallen
  · rw [hf] at c5
    go_wp2_with fail
    refine (disk_Down h.disk).mono ?_
    rintro e W1 ⟨rfl, rfl⟩
    go_wp2_with fail
    go_ret
    exact ⟨rfl, Below.refl _ _⟩
  · rw [hf] at c5
    go_wp2_with fail
    go_ret
    exact ⟨rfl, Below.refl _ _⟩

set_option maxHeartbeats 800000 in
theorem store_may (h : StAt W q S D) (lo po mo : Int) : Calls Try.prog 42 #[.pointer (some ⟨q.s, 0, none⟩), .int .i64 lo, .int .i64 po, .int .i64 mo] W fun e w' => e = .returned (.int .i64 (if 0 ≤ lo ∧ lo < 281474976710656 ∧ 0 ≤ po ∧ po ≤ mo then 0 else 1)) ∧ Below W.heap.size W w' := by
  go_enter Try.func42, Try.ntmps42
  go_wp2_with fail
  refine (store_none h).mono ?_
  rintro e W1 ⟨rfl, rfl⟩
  by_cases h1 : lo < 0
  · have hd1 : decide (lo < 0) = true := by simpa using h1
    go_wp2_with fail
    go_ret
    exact ⟨rfl, Below.refl _ _⟩
  have hd1 : decide (lo < 0) = false := by simpa using h1
  by_cases h2 : lo ≥ 281474976710656
  · have hd2 : decide (lo ≥ 281474976710656) = true := by simpa using h2
    go_wp2_with fail
    go_ret
    exact ⟨rfl, Below.refl _ _⟩
  have hd2 : decide (lo ≥ 281474976710656) = false := by simpa using h2
  by_cases h3 : po < 0
  · have hd3 : decide (po < 0) = true := by simpa using h3
    go_wp2_with fail
    go_ret
    exact ⟨rfl, Below.refl _ _⟩
  have hd3 : decide (po < 0) = false := by simpa using h3
  by_cases h4 : po > mo
  · have hd4 : decide (po > mo) = true := by simpa using h4
    go_wp2_with fail
    go_ret
    exact ⟨rfl, Below.refl _ _⟩
  have hd4 : decide (po > mo) = false := by simpa using h4
  go_wp2_with fail
  go_ret
  exact ⟨rfl, Below.refl _ _⟩
end

end Go.Proofs.Ytpkaepmmkojdaaa
