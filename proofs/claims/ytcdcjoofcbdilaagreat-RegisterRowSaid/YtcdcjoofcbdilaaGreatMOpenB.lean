import Derived.Test.YtcdcjoofcbdilaaGreatMap
import Derived.Test.YtcdcjoofcbdilaaGreatSync
import Derived.Laws.StructEq
import Derived.WideKeyRuns
import Derived.Test.YtcdcjoofcbdilaaGreatMEntry
import Derived.BigQuiet
/-! Maps whose keys are slots: a struct of two ints. -/
namespace Go.Proofs.YtcdcjoofcbdilaaGreat
open Go.RowKit

def encS (k : Int × Int) : Value := .agg #[.int .i64 k.1, .int .i64 k.2]
theorem encS_inj : ∀ (a b : Int × Int), encS a = encS b → a = b := fun a b h => by
  simp [encS] at h
  exact Prod.ext h.1 h.2

theorem fields_slot : (Tryz.prog.fieldsOf 249).toList.map (fun f => (f.name == "_", f.type, f.offset)) = [(false, 3, 0), (false, 3, 1)] := by kernel_rfl
theorem under_slot : Tryz.prog.underlying 249 = some (.struct (Tryz.prog.fieldsOf 249)) := by kernel_rfl
theorem held_slot : Tryz.prog.stoodInHeld 249 = false := by kernel_rfl
theorem part_int (xs : Array Value) (i : Nat) (n : Int) (h : xs[i]? = some (.int .i64 n)) (w : World) : (part 3 xs i).run Tryz.prog w = .ok (.int .i64 n) w :=
  run_part_plain w (by kernel_rfl) h

theorem map_two {α β : Type} {f : α → β} {l : List α} {x y : β} (h : l.map f = [x, y]) : ∃ a b, l = [a, b] ∧ f a = x ∧ f b = y := by
  cases l with
  | nil => simp at h
  | cons a l => cases l with
    | nil => simp at h
    | cons b l => cases l with
      | nil => simp at h; exact ⟨a, b, rfl, h.1, h.2⟩
      | cons c l => simp at h
theorem part_0 (x y : Int) (w : World) : (part 3 #[.int .i64 x, .int .i64 y] 0).run Tryz.prog w = .ok (.int .i64 x) w := part_int _ 0 x rfl w
theorem part_1 (x y : Int) (w : World) : (part 3 #[.int .i64 x, .int .i64 y] 1).run Tryz.prog w = .ok (.int .i64 y) w := part_int _ 1 y rfl w
theorem eqIn_int (d : Nat) (n m : Int) (w : World) : (Op.equalIn (d + 1) 3 (.int .i64 n) (.int .i64 m)).run Tryz.prog w = .ok (n == m) w := run_equalIn_int (P := Tryz.prog) w d 3 .i64 .i64 n m Tryz.underlying3

theorem eqFields_slot (d : Nat) (a1 a2 b1 b2 : Int) (w : World) : (Op.eqFields (d + 1) #[.int .i64 a1, .int .i64 a2] #[.int .i64 b1, .int .i64 b2] (Tryz.prog.fieldsOf 249).toList).run Tryz.prog w = .ok (a1 == b1 && a2 == b2) w := by
  obtain ⟨f, g, e, hf, hg⟩ := map_two fields_slot
  simp only [Prod.mk.injEq] at hf hg
  obtain ⟨h1, h2, h3⟩ := hf
  obtain ⟨h4, h5, h6⟩ := hg
  rw [e]
  simp only [Op.eqFields, ne_eq, beq_eq_false_iff_ne.1 h1, beq_eq_false_iff_ne.1 h4, not_false_eq_true, if_true, h2, h3, h5, h6, Sem.run_bind, part_0, part_1, eqIn_int, Result.andThen_ok]
  cases hA : a1 == b1 <;> cases hB : a2 == b2 <;> simp [part_0, part_1, eqIn_int, Sem.run_bind, hA, hB]

theorem equal_slot (a b : Int × Int) (w : World) : (Op.equal 249 (encS a) (encS b)).run Tryz.prog w = .ok (decide (a = b)) w := by
  obtain ⟨a1, a2⟩ := a
  obtain ⟨b1, b2⟩ := b
  unfold Op.equal encS
  rw [show Op.maxDepth = 9998 + 1 + 1 from rfl, run_equalIn_struct w _ _ _ _ under_slot held_slot, eqFields_slot]
  congr 1
  by_cases h1 : a1 = b1 <;> by_cases h2 : a2 = b2 <;> simp [h1, h2]

theorem asking_slot (k : Int × Int) (w : World) : ∀ (es : List (Ent (Int × Int))) (i : Nat), (Instr.findAsking 249 (encS k) (es.map (Ent.raw encS)) i).run Tryz.prog w = .ok (mfind k es i) w
  | [], i => by simp [Instr.findAsking, mfind]
  | e :: es, i => by
    simp only [List.map_cons, Instr.findAsking, Sem.run_bind, Ent.raw, equal_slot, Result.andThen_ok, mfind]
    by_cases h : k = e.k
    · simp [h]
    · simp only [h, decide_false, Bool.false_eq_true, if_false]
      exact asking_slot k w es (i + 1)

theorem check_int (em : Bool) (d : Nat) (n : Int) (w : World) : (Instr.checkKey em (d + 1) 3 (.int .i64 n)).run Tryz.prog w = .ok () w := by simp [Instr.checkKey, run_underlying Tryz.underlying3]
theorem check_slot (em : Bool) (k : Int × Int) (w : World) : (Instr.checkKey em 10000 249 (encS k)).run Tryz.prog w = .ok () w := by
  obtain ⟨k1, k2⟩ := k
  have hu := run_underlying (P := Tryz.prog) under_slot w
  unfold encS
  rw [show (10000 : Nat) = 9998 + 1 + 1 from rfl, Instr.checkKey]
  obtain ⟨f, g, e, hf, hg⟩ := map_two fields_slot
  simp only [Prod.mk.injEq] at hf hg
  obtain ⟨h1, h2, h3⟩ := hf
  obtain ⟨h4, h5, h6⟩ := hg
  have e' : Tryz.prog.fieldsOf 249 = #[f, g] := by rw [← Array.toList_inj, e]
  rw [e'] at hu
  simp only [Sem.run_bind, hu, Result.andThen_ok]
  generalize hd : 9998 + 1 = d
  obtain ⟨d, rfl⟩ : ∃ m, d = m + 1 := ⟨9998, hd.symm⟩
  simp [beq_eq_false_iff_ne.1 h1, beq_eq_false_iff_ne.1 h4, h2, h3, h5, h6, Sem.run_bind, part_0, part_1, check_int]

theorem keyLaw_slot : KeyLaw Tryz.prog 249 encS where
  check em k w := check_slot em k w
  find k es w := by
    rw [run_findKey_eq w (by rw [under_slot])]
    exact asking_slot k w es 0
  same k := by simp [encS, Instr.sameBits]

end Go.Proofs.YtcdcjoofcbdilaaGreat

/-! Package disk, on: Read. -/
namespace Go.Proofs.YtcdcjoofcbdilaaGreat
open Go.RowKit

theorem zc143 : Tryz.zeroCells207.size = 256 := by kernel_rfl
theorem cells_size (t : List UInt8) (h : t.length = 256) : (t.map bv).toArray.size = 256 := by simp [h]
theorem cells_all (t : List UInt8) : (t.map bv).toArray.all (·.oneCell') = true := by
  rw [Array.all_eq_true_iff_forall_mem]
  intro v hv
  simp only [List.mem_toArray, List.mem_map] at hv
  obtain ⟨b, _, rfl⟩ := hv
  rfl
theorem bs_row {W : World} {g : Nat} {ty : TypeId} {t : List UInt8} (h : Blk W g (t.map bv).toArray ty) (ht : t.length = 256) : Bs W (.slice (some ⟨g, 0, none⟩) 256 256) t :=
  Bs.mk ht (Nat.le_refl _) (by simp [maxLen]) (fun i u hi => h.cell (by simp [hi]))

section
variable {W : World} {p : DkP} {D : Dk}

set_option maxRecDepth 100000 in
set_option maxHeartbeats 1600000 in
theorem disk_Read_text (h : DkAt W p D) (hoff : D.off = false) (kk : Nat) (t : List UInt8) (hv : D.vers (kk : Int) = none) (hbad : D.bad (kk : Int) = false) (ht : D.texts[kk]? = some t) :
    Calls Tryz.prog 137 #[.pointer (some ⟨p.d, 0, none⟩), .int .i64 (kk : Int)] W fun e w' => ∃ g, e = .returned (.tuple #[.slice (some ⟨g, 0, none⟩) 256 256, .int .i64 0]) ∧ W.heap.size ≤ g ∧ Bs w' (.slice (some ⟨g, 0, none⟩) 256 256) t ∧ Below W.heap.size W w' := by
  have hlt : kk < D.texts.length := (List.getElem?_eq_some_iff.1 ht).1
  have htl := h.lens t (List.mem_of_getElem? ht)
  have hd1 : decide ((kk : Int) < 0) = false := by simp
  have hd2 : decide ((kk : Int) ≥ (D.texts.length : Int)) = false := by simp; omega
  have hra := h.rows kk t ht
  have c0 := h.cell.cell (o := 0) rfl
  have c3 := h.cell.cell (o := 3) rfl
  rw [hoff] at c3
  have hB := Blk.new W Tryz.zeroCells207 207
  have hB' := hB.setRow (t.map bv).toArray
  have hb : Below W.heap.size W ((W.alloc (.cells Tryz.zeroCells207 207)).setRow W.heap.size (t.map bv).toArray) := ((Below.refl _ W).alloc (Nat.le_refl _) _).grown (setRow_grown _ _ _) (by simp) (fun k h => by cases h; exact Nat.le_refl _)
  have hsz := cells_size t htl
  have hall := cells_all t
  obtain ⟨es, c, hm, hes, hev⟩ := (h.keep hb).vers
  have hno : mhas es (kk : Int) = false := by rw [← hes, hv]; rfl
  have hlk := run_lookup_raw (P := Tryz.prog) (keyLaw_int Tryz.underlying3) hm Tryz.underlying171 (kk : Int) (z := .slice none 0 0) (fun w => by kernel_rfl) false
  rw [mget_none hno] at hlk
  simp only [Bool.false_eq_true, if_false, Option.getD_none, encI] at hlk
  obtain ⟨esb, cb, hmb, hrb, hvb⟩ := (h.keep hb).bads
  have hnob : mhas esb (kk : Int) = false := by rw [← hrb, hbad]
  have hlkb := run_lookup_raw (P := Tryz.prog) (keyLaw_int Tryz.underlying3) hmb Tryz.underlying170 (kk : Int) (z := .bool false) (fun w => by kernel_rfl) false
  rw [mget_none hnob] at hlkb
  simp only [Bool.false_eq_true, if_false, Option.getD_none, encI] at hlkb
  have c2' := (h.keep hb).cell.cell (o := 2) rfl
  have c1' := (h.keep hb).cell.cell (o := 1) rfl
  have hbs := bs_row hB' htl
  clear hes hev hrb hvb hmb hm
  go_enter Tryz.func137, Tryz.ntmps137
  go_wp2_with fail
  refine (disk_none h).mono ?_
  rintro e W1 ⟨rfl, rfl⟩
  go_wp2_with (first | (refine wpList_load_mid rfl 207 _ rfl p.gt (256 * kk) ?_ (t.map bv) _ hra Tryz.underlying207 rfl (by rw [List.length_map, htl]; exact size_text) ?_) | (refine wpList_store_row rfl 207 _ _ rfl W1.heap.size (t.map bv).toArray rfl rfl 207 _ hB (by rw [hsz]; exact size_text) (by rw [hsz]; exact zc143) hall ?_))
  · show Value.pointer (some ⟨p.gt, kk * 256, none⟩) = _
    rw [Nat.mul_comm]
  · go_ret2
    exact ⟨_, rfl, Nat.le_refl _, hbs, hb⟩

set_option maxHeartbeats 800000 in
theorem disk_Read_off (h : DkAt W p D) (hoff : D.off = true) (kk : Nat) (hlt : kk < D.texts.length) :
    Calls Tryz.prog 137 #[.pointer (some ⟨p.d, 0, none⟩), .int .i64 (kk : Int)] W fun e w' => e = .returned (.tuple #[.slice none 0 0, .int .i64 8]) ∧ w' = W := by
  have hd1 : decide ((kk : Int) < 0) = false := by simp
  have hd2 : decide ((kk : Int) ≥ (D.texts.length : Int)) = false := by simp; omega
  have c0 := h.cell.cell (o := 0) rfl
  have c3 := h.cell.cell (o := 3) rfl
  rw [hoff] at c3
  go_enter Tryz.func137, Tryz.ntmps137
  go_wp2_with fail
  refine (disk_none h).mono ?_
  rintro e W1 ⟨rfl, rfl⟩
  go_wp2_with fail
  go_ret2
  exact ⟨rfl, rfl⟩
end

end Go.Proofs.YtcdcjoofcbdilaaGreat

/-! Package store: what lies in memory; the walks of the small functions. -/
namespace Go.Proofs.YtcdcjoofcbdilaaGreat
open Go.RowKit

/-- A store: slots, loglets' states (tail, trim, sealed), its end, its entries' number. -/
structure St where
  slots : Int × Int → Option (List UInt8)
  states : Int → Option (Int × Int × Bool)
  fin : Nat
  num : Nat
  fallen : Bool

/-- Where it lies; U: the blocks of its slots' data. -/
structure StP where
  s : Nat
  ms : Nat
  mt : Nat
  p : DkP
  U : Nat → Prop

def StP.own (q : StP) (b : Nat) : Prop := b = q.s ∨ b = q.ms ∨ b = q.mt ∨ q.p.own b
def StP.all (q : StP) (b : Nat) : Prop := q.own b ∨ q.U b ∨ q.p.V b

def DatAt (W : World) (U : Nat → Prop) (v : Value) (l : List UInt8) : Prop := Bs W v l ∧ ∀ g, v.ownBlock = some g → U g

structure StAt (W : World) (q : StP) (S : St) (D : Dk) : Prop where
  cell : Blk W q.s #[.pointer (some ⟨q.p.d, 0, none⟩), .map (some q.ms), .map (some q.mt), .int .i64 (S.fin : Int), .int .i64 (S.num : Int), .bool S.fallen] 235
  disk : DkAt W q.p D
  slots : ∃ es c, MapAt W q.ms encS es c ∧ (∀ k, (S.slots k).isSome = mhas es k) ∧ ∀ e ∈ es, ∃ l, S.slots e.k = some l ∧ DatAt W q.U e.v l ∧ l.length ≤ 65536
  states : ∃ es c, MapAt W q.mt encI es c ∧ (∀ k, (S.states k).isSome = mhas es k) ∧ ∀ e ∈ es, ∃ tl tr sl, S.states e.k = some (tl, tr, sl) ∧ e.v = .agg #[.int .i64 tl, .int .i64 tr, .bool sl] ∧ 0 ≤ tl ∧ tl ≤ 281474976710656 ∧ 0 ≤ tr ∧ tr ≤ 281474976710656
  ne : q.s ≠ q.ms ∧ q.s ≠ q.mt ∧ q.ms ≠ q.mt ∧ ¬ q.p.all q.s ∧ ¬ q.p.all q.ms ∧ ¬ q.p.all q.mt
  data : ∀ b, q.U b → ¬ (b = q.s ∨ b = q.ms ∨ b = q.mt) ∧ ¬ q.p.all b
  lt : ∀ b, q.U b → b < W.heap.size
  bound : S.fin ≤ D.texts.length ∧ S.num ≤ S.fin

theorem DatAt.ext {fp : Nat → Prop} {W W' : World} {U : Nat → Prop} {v : Value} {l : List UInt8} (h : DatAt W U v l) (he : Ext fp W W') (hn : ∀ b, fp b → ¬ U b) : DatAt W' U v l :=
  ⟨h.1.ext he (fun g hg _ hf => hn g hf (h.2 g hg)), h.2⟩

theorem StAt.ext {fp : Nat → Prop} {W W' : World} {q : StP} {S : St} {D : Dk} (h : StAt W q S D) (he : Ext fp W W') (hn : ∀ b, fp b → ¬ q.all b) : StAt W' q S D where
  cell := h.cell.ext he (fun hf => hn _ hf (.inl (.inl rfl)))
  disk := h.disk.extAll he (fun b hf hp => hn b hf (by
    rcases hp with hp | hp
    · exact .inl (.inr (.inr (.inr hp)))
    · exact .inr (.inr hp)))
  slots := by
    obtain ⟨es, c, hm, hr, hv⟩ := h.slots
    refine ⟨es, c, hm.ext he (fun hf => hn _ hf (.inl (.inr (.inl rfl)))), hr, fun e hm => ?_⟩
    obtain ⟨l, q1, q2, q3⟩ := hv e hm
    exact ⟨l, q1, q2.ext he (fun b hf hu => hn b hf (.inr (.inl hu))), q3⟩
  states := by obtain ⟨es, c, hm, hr⟩ := h.states; exact ⟨es, c, hm.ext he (fun hf => hn _ hf (.inl (.inr (.inr (.inl rfl))))), hr⟩
  ne := h.ne
  data := h.data
  lt := fun b hb => Nat.lt_of_lt_of_le (h.lt b hb) he.size
  bound := h.bound
theorem StAt.keep {W W' : World} {q : StP} {S : St} {D : Dk} (h : StAt W q S D) (hb : Below W.heap.size W W') : StAt W' q S D := h.ext (fp := nofp) (Ext.ofBelow hb) (fun _ h => h.elim)
theorem StAt.size {W : World} {q : StP} {S : St} {D : Dk} (h : StAt W q S D) {b : Nat} (hb : q.all b) : b < W.heap.size := by
  rcases hb with (rfl | rfl | rfl | hb) | hb | hb
  · exact h.cell.lt
  · obtain ⟨_, _, hm, _⟩ := h.slots; exact hm.lt
  · obtain ⟨_, _, hm, _⟩ := h.states; exact hm.lt
  · exact h.disk.lt (.inl hb)
  · exact h.lt b hb
  · exact h.disk.lt (.inr hb)

section
variable {W : World} {q : StP} {S : St} {D : Dk}

set_option maxHeartbeats 800000 in
theorem store_none (h : StAt W q S D) : Calls Tryz.prog 141 #[.pointer (some ⟨q.s, 0, none⟩)] W fun e w' => e = .returned (.bool false) ∧ w' = W := by
  have c0 := h.cell.cell (o := 0) rfl
  go_enter Tryz.func141, Tryz.ntmps141
  go_wp2_with fail
  go_ret
  exact ⟨rfl, rfl⟩

set_option maxHeartbeats 800000 in
theorem store_Free (h : StAt W q S D) : Calls Tryz.prog 191 #[.pointer (some ⟨q.s, 0, none⟩)] W fun e w' => e = .returned (.int .i64 ((D.texts.length - S.fin : Nat) : Int)) ∧ Below W.heap.size W w' := by
  have c0 := h.cell.cell (o := 0) rfl
  have c3 := h.cell.cell (o := 3) rfl
  have hb := h.bound.1
  have hsub : ((D.texts.length : Int) - (S.fin : Int)) = ((D.texts.length - S.fin : Nat) : Int) := by omega
  have hmost := h.disk.most
  go_enter Tryz.func191, Tryz.ntmps191
  go_wp2_with fail
  refine (store_none h).mono ?_
  rintro e W1 ⟨rfl, rfl⟩
  go_wp2_with fail
  go_quiet ((go_at_call 133; exact Calls.quiet_of_same (disk_Blocks (h.disk.keep (below_of_drewN _ _ _)))))
  go_wp2_with fail
  go_ret
  exact ⟨rfl, below_of_drewN _ _ _⟩

set_option maxHeartbeats 800000 in
theorem store_down (h : StAt W q S D) : Calls Tryz.prog 178 #[.pointer (some ⟨q.s, 0, none⟩)] W fun e w' => e = .returned (.bool (S.fallen || D.off)) ∧ Below W.heap.size W w' := by
  have c0 := h.cell.cell (o := 0) rfl
  have c5 := h.cell.cell (o := 5) rfl
  go_enter Tryz.func178, Tryz.ntmps178
  cases hf : S.fallen
  · rw [hf] at c5
    go_wp2_with fail
    refine (disk_Down h.disk).mono ?_
    rintro e W1 ⟨rfl, rfl⟩
    go_wp2_with fail
    go_ret
    exact ⟨rfl, Below.refl _ _⟩
  · rw [hf] at c5
    go_wp2_with fail
    go_ret
    exact ⟨rfl, Below.refl _ _⟩

set_option maxHeartbeats 800000 in
theorem store_may (h : StAt W q S D) (lo po mo : Int) : Calls Tryz.prog 144 #[.pointer (some ⟨q.s, 0, none⟩), .int .i64 lo, .int .i64 po, .int .i64 mo] W fun e w' => e = .returned (.int .i64 (if 0 ≤ lo ∧ lo < 281474976710656 ∧ 0 ≤ po ∧ po ≤ mo then 0 else 1)) ∧ Below W.heap.size W w' := by
  go_enter Tryz.func144, Tryz.ntmps144
  go_wp2_with fail
  refine (store_none h).mono ?_
  rintro e W1 ⟨rfl, rfl⟩
  by_cases h1 : lo < 0
  · have hd1 : decide (lo < 0) = true := by simpa using h1
    go_wp2_with fail
    go_ret
    exact ⟨rfl, Below.refl _ _⟩
  have hd1 : decide (lo < 0) = false := by simpa using h1
  by_cases h2 : lo ≥ 281474976710656
  · have hd2 : decide (lo ≥ 281474976710656) = true := by simpa using h2
    go_wp2_with fail
    go_ret
    exact ⟨rfl, Below.refl _ _⟩
  have hd2 : decide (lo ≥ 281474976710656) = false := by simpa using h2
  by_cases h3 : po < 0
  · have hd3 : decide (po < 0) = true := by simpa using h3
    go_wp2_with fail
    go_ret
    exact ⟨rfl, Below.refl _ _⟩
  have hd3 : decide (po < 0) = false := by simpa using h3
  by_cases h4 : po > mo
  · have hd4 : decide (po > mo) = true := by simpa using h4
    go_wp2_with fail
    go_ret
    exact ⟨rfl, Below.refl _ _⟩
  have hd4 : decide (po > mo) = false := by simpa using h4
  go_wp2_with fail
  go_ret
  exact ⟨rfl, Below.refl _ _⟩
end

end Go.Proofs.YtcdcjoofcbdilaaGreat

/-! Package store, on: Open of a disk that nobody wrote. -/
namespace Go.Proofs.YtcdcjoofcbdilaaGreat
open Go.RowKit

theorem size_entry : (Tryz.prog.info? 237).map (·.size) = some 4 := by kernel_rfl

section
variable {W : World} {q : StP} {S : St} {D : Dk}

set_option maxRecDepth 100000 in
set_option maxHeartbeats 1600000 in
theorem store_part_no (h : StAt W q S D) (hoff : D.off = false) (kk : Nat) (t : List UInt8) (hv : D.vers (kk : Int) = none) (hbad : D.bad (kk : Int) = false) (ht : D.texts[kk]? = some t) (u : UInt8) (h0 : t[0]? = some u) (hu : u ≠ 165) :
    Calls Tryz.prog 169 #[.pointer (some ⟨q.s, 0, none⟩), .int .i64 (kk : Int)] W fun e w' => e = .returned (.tuple #[.int .i64 0, .int .i64 0, .slice none 0 0, .bool false]) ∧ Below W.heap.size W w' := by
  have c0 := h.cell.cell (o := 0) rfl
  go_enter Tryz.func169, Tryz.ntmps169
  go_wp2_with fail
  refine (disk_Read_text h.disk hoff kk t hv hbad ht).mono ?_
  rintro e W1 ⟨g, rfl, hg, hb, hbl⟩
  have hc : W1.cell? ⟨g, 0, none⟩ = some (bv u) := by
    rcases hb.cases with ⟨e, _⟩ | ⟨g', o', c', e, _, _, hc⟩ | ⟨e, _⟩
    · cases e
    rotate_left
    · rw [e] at h0; simp at h0
    · injection e with e1 e2 e3
      injection e1 with e1
      injection e1 with e1 e4
      subst e1 e4
      exact hc 0 u h0
  clear hb
  have hne : ¬ ((u.toNat : Int) = 165) := fun hh => hu (UInt8.toNat_inj.1 (by show u.toNat = 165; omega))
  have hd : decide ((u.toNat : Int) = 165) = false := decide_eq_false hne
  have hd2 : ((u.toNat : Int) == 165) = false := beq_eq_false_iff_ne.2 hne
  have hd3 : decide ((u.toNat : Int) ≠ 165) = true := decide_eq_true hne
  have hw0 : IntKind.i64.wrap 0 = 0 := by rw [IntKind.wrap_i64]; rfl
  go_wp2_with fail
  go_quiet (fail)
  go_wp2_with fail
  refine bodyPost_ret (v := .tuple #[.int .i64 0, .int .i64 0, .slice none 0 0, .bool false]) (by simp [results, Tryz.results169, go_sem]) rfl ?_
  exact ⟨rfl, below_drewN (B := W.heap.size) hbl _⟩

set_option maxRecDepth 100000 in
set_option maxHeartbeats 1600000 in
theorem store_next_no (h : StAt W q S D) (hoff : D.off = false) (t : List UInt8) (hv : D.vers (S.fin : Int) = none) (hbad : D.bad (S.fin : Int) = false) (ht : D.texts[S.fin]? = some t) (u : UInt8) (h0 : t[0]? = some u) (hu : u ≠ 165) :
    Calls Tryz.prog 135 #[.pointer (some ⟨q.s, 0, none⟩)] W fun e w' => e = .returned (.tuple #[.agg #[.int .i64 0, .int .i64 0, .int .i64 0, .slice none 0 0], .int .i64 0, .bool false]) ∧ Below W.heap.size W w' := by
  obtain ⟨W1, hW1⟩ : ∃ W1, W.alloc (.cells #[.int .i64 0, .int .i64 0, .int .i64 0, .slice none 0 0] 237) = W1 := ⟨_, rfl⟩
  have b1 : Below W.heap.size W W1 := by rw [← hW1]; exact (Below.refl _ W).alloc (Nat.le_refl _) _
  have q0 : Blk W1 W.heap.size #[.int .i64 0, .int .i64 0, .int .i64 0, .slice none 0 0] 237 := by rw [← hW1]; exact Blk.new W _ _
  have h1 := h.keep b1
  have c3 := h1.cell.cell (o := 3) rfl
  go_enter Tryz.func135, Tryz.ntmps135
  go_wp2_with fail
  refine (store_part_no h1 hoff S.fin t hv hbad ht u h0 hu).mono ?_
  rintro e W2 ⟨rfl, b2⟩
  have q2 := q0.keep b2
  have b2' := b1.trans (b2.mono b1.size)
  clear b1 b2 q0 h1 c3
  go_wp2_with fail
  go_quiet (fail)
  have k0 := q2.cell (o := 0) rfl
  have k1 := q2.cell (o := 1) rfl
  have k2 := q2.cell (o := 2) rfl
  have k3 := q2.cell (o := 3) rfl
  have l0 := q2.free 0
  have l1 := q2.free 1
  have l2 := q2.free 2
  have l3 := q2.free 3
  have bN : Below W.heap.size W (W2.drewN nq) := below_drewN (B := W.heap.size) b2' nq
  have bS : Below W.heap.size W (((((W2.drewN nq).setCell ⟨W.heap.size, 0, none⟩ (.int .i64 0)).setCell ⟨W.heap.size, 1, none⟩ (.int .i64 0)).setCell ⟨W.heap.size, 2, none⟩ (.int .i64 0)).setCell ⟨W.heap.size, 3, none⟩ (.slice none 0 0)) :=
    (((bN.setCell (p := ⟨W.heap.size, 0, none⟩) (by simp) _).setCell (p := ⟨W.heap.size, 1, none⟩) (by simp) _).setCell (p := ⟨W.heap.size, 2, none⟩) (by simp) _).setCell (p := ⟨W.heap.size, 3, none⟩) (by simp) _
  have qF : Blk (((((W2.drewN nq).setCell ⟨W.heap.size, 0, none⟩ (.int .i64 0)).setCell ⟨W.heap.size, 1, none⟩ (.int .i64 0)).setCell ⟨W.heap.size, 2, none⟩ (.int .i64 0)).setCell ⟨W.heap.size, 3, none⟩ (.slice none 0 0)) W.heap.size #[.int .i64 0, .int .i64 0, .int .i64 0, .slice none 0 0] 237 := by
    have h2 : Blk (W2.drewN nq) W.heap.size #[.int .i64 0, .int .i64 0, .int .i64 0, .slice none 0 0] 237 := q2
    have := (((h2.set (o := 0) (.int .i64 0)).set (o := 1) (.int .i64 0)).set (o := 2) (.int .i64 0)).set (o := 3) (.slice none 0 0)
    simpa using this
  have HS := hid bS
  have HF := hid qF
  clear bS qF bN
  go_wp2_with fail
  have bS := HS.out
  have qF := HF.out
  clear HS HF
  generalize ((((W2.drewN nq).setCell ⟨W.heap.size, 0, none⟩ (.int .i64 0)).setCell ⟨W.heap.size, 1, none⟩ (.int .i64 0)).setCell ⟨W.heap.size, 2, none⟩ (.int .i64 0)).setCell ⟨W.heap.size, 3, none⟩ (.slice none 0 0) = WS at *
  have hld := run_loadVar_row (P := Tryz.prog) WS W.heap.size 237 237 _ (0, 0) _ qF Tryz.underlying237 rfl size_entry
  refine bodyPost_ret (v := .tuple #[.agg #[.int .i64 0, .int .i64 0, .int .i64 0, .slice none 0 0], .int .i64 0, .bool false]) ?_ rfl ?_
  · simp [results, Tryz.results135, hld, asAddr]
  · exact ⟨rfl, bS⟩
end

end Go.Proofs.YtcdcjoofcbdilaaGreat

/-! Package store, on: Open of a disk that nobody wrote. -/
namespace Go.Proofs.YtcdcjoofcbdilaaGreat
open Go.RowKit

def St.fresh : St := { slots := fun _ => none, states := fun _ => none, fin := 0, num := 0, fallen := false }

theorem StAt.begin {W : World} {p : DkP} {D : Dk} (h : DkAt W p D) :
    StAt (((W.alloc (.map #[] 0)).alloc (.map #[] 0)).alloc (.cells #[.pointer (some ⟨p.d, 0, none⟩), .map (some W.heap.size), .map (some (W.heap.size + 1)), .int .i64 0, .int .i64 0, .bool false] 235)) ⟨W.heap.size + 2, W.heap.size, W.heap.size + 1, p, fun _ => False⟩ St.fresh D where
  cell := Blk.new' _ _ (by simp) _ _
  disk := h.keep ((((Below.refl _ W).alloc (Nat.le_refl _) _).alloc (by simp) _).alloc (by simp; omega) _)
  slots := ⟨[], 0, ((MapAt.new W encS).keep (((Below.refl _ _).alloc (Nat.le_refl _) _).alloc (by simp) _)), fun _ => rfl, fun e he => by simp at he⟩
  states := ⟨[], 0, by have := ((MapAt.new (W.alloc (.map #[] 0)) encI).keep ((Below.refl _ _).alloc (Nat.le_refl _) (.cells #[.pointer (some ⟨p.d, 0, none⟩), .map (some W.heap.size), .map (some (W.heap.size + 1)), .int .i64 0, .int .i64 0, .bool false] 235))); rw [World.size_alloc] at this; exact this, fun _ => rfl, fun e he => by simp at he⟩
  ne := ⟨by simp, by simp, by simp, fun hc => absurd (h.lt hc) (by simp), fun hc => absurd (h.lt hc) (by simp), fun hc => absurd (h.lt hc) (by simp)⟩
  data := fun b hb => hb.elim
  lt := fun b hb => hb.elim
  bound := ⟨Nat.zero_le _, Nat.le_refl _⟩

theorem fresh_texts (n k : Nat) (h : k < n) : (Dk.fresh n).texts[k]? = some (List.replicate 256 0) := by
  show (List.replicate n (List.replicate 256 0))[k]? = _
  rw [List.getElem?_replicate, if_pos h]
theorem fresh_len (n : Nat) : (Dk.fresh n).texts.length = n := List.length_replicate

set_option maxRecDepth 100000 in
set_option maxHeartbeats 1600000 in
theorem store_Open_fresh {W : World} {p : DkP} (n : Nat) (h : DkAt W p (Dk.fresh n)) :
    Calls Tryz.prog 90 #[.pointer (some ⟨p.d, 0, none⟩)] W fun e w' => ∃ q, e = .returned (.tuple #[.pointer (some ⟨q.s, 0, none⟩), .int .i64 0]) ∧ StAt w' q St.fresh (Dk.fresh n) ∧ Below W.heap.size W w' ∧ q.p = p ∧ W.heap.size ≤ q.s ∧ W.heap.size ≤ q.ms ∧ W.heap.size ≤ q.mt ∧ q.U = fun _ => False := by
  have hn := h.pos
  have hn2 := h.most
  rw [fresh_len] at hn hn2
  have hd0 : ((n : Int) == 0) = false := beq_eq_false_iff_ne.2 (by omega)
  have hd1 : decide ((n : Int) = 0) = false := decide_eq_false (by omega)
  have hS := StAt.begin h
  have hmm := @run_makeMap Tryz.prog
  have hbl := disk_Blocks h
  rw [fresh_len] at hbl
  go_enter Tryz.func90, Tryz.ntmps90
  go_wp2_with fail
  refine hbl.mono ?_
  rintro e W1 ⟨rfl, rfl⟩
  go_wp2_with fail
  refine (disk_Down h).mono ?_
  rintro e W2 ⟨rfl, rfl⟩
  rw [show (Dk.fresh n).off = false from rfl]
  have bS : Below W2.heap.size W2 (((W2.alloc (.map #[] 0)).alloc (.map #[] 0)).alloc (.cells #[.pointer (some ⟨p.d, 0, none⟩), .map (some W2.heap.size), .map (some (W2.heap.size + 1)), .int .i64 0, .int .i64 0, .bool false] 235)) := (((Below.refl _ W2).alloc (Nat.le_refl _) _).alloc (by simp) _).alloc (by simp; omega) _
  go_wp2_with fail
  obtain ⟨q, hq⟩ : ∃ q : StP, q = ⟨W2.heap.size + 2, W2.heap.size, W2.heap.size + 1, p, fun _ => False⟩ := ⟨_, rfl⟩
  rw [← hq] at hS
  have hqs : W2.heap.size + 1 + 1 = q.s := by rw [hq]
  have hqp : q.p = p := by rw [hq]
  have Hq := hid (show W2.heap.size ≤ q.s ∧ W2.heap.size ≤ q.ms ∧ W2.heap.size ≤ q.mt ∧ q.U = fun _ => False by rw [hq]; exact ⟨by simp, by simp, by simp, rfl⟩)
  rw [hqs]
  generalize ((W2.alloc (.map #[] 0)).alloc (.map #[] 0)).alloc (.cells #[.pointer (some ⟨p.d, 0, none⟩), .map (some W2.heap.size), .map (some (W2.heap.size + 1)), .int .i64 0, .int .i64 0, .bool false] 235) = WS at *
  clear hbl hmm hq hqs
  go_loopw [7] (fun _ wr => wr = WS) (fun _ wr => 0)
  case atStart => rfl
  case round =>
    subst hrel
    have hDk : DkAt wr p (Dk.fresh n) := hqp ▸ hS.disk
    have hblk : ∀ k, Calls Tryz.prog 133 #[.pointer (some ⟨p.d, 0, none⟩)] (wr.drewN k) fun e w' => e = .returned (.int .i64 (n : Int)) ∧ w' = wr.drewN k := fun k => by
      have := disk_Blocks (hDk.keep (below_of_drewN _ wr k))
      rwa [fresh_len] at this
    have c3 : wr.cell? ⟨q.s, 3, none⟩ = some (.int .i64 0) := hS.cell.cell (o := 3) rfl
    have hlt : decide ((0 : Int) < (n : Int)) = true := decide_eq_true (by omega)
    go_wp2_with fail
    go_quiet ((go_at_call 133; exact Calls.quiet_of_same (hblk _)))
    have hS1 : StAt (wr.drewN nq) q St.fresh (Dk.fresh n) := hS.keep (below_of_drewN _ _ _)
    have bS1 : Below W2.heap.size W2 (wr.drewN nq) := below_drewN (B := W2.heap.size) bS nq
    clear hS hDk hblk c3 bS
    generalize wr.drewN nq = W3 at *
    go_wp2_with fail
    refine (store_next_no hS1 rfl (List.replicate 256 0) rfl rfl (fresh_texts n 0 hn) 0 rfl (by decide)).mono ?_
    rintro e W4 ⟨rfl, b4⟩
    have hS2 := hS1.keep b4
    have bS2 := bS1.trans (b4.mono bS1.size)
    clear hS1 b4 bS1
    obtain ⟨W5, hW5⟩ : ∃ W5, W4.alloc (.cells #[.int .i64 0, .int .i64 0, .int .i64 0, .slice none 0 0] 237) = W5 := ⟨_, rfl⟩
    have b5 : Below W4.heap.size W4 W5 := by rw [← hW5]; exact (Below.refl _ W4).alloc (Nat.le_refl _) _
    have hmk : (Instr.makeSlice 30 (.int .i64 256) (.int .i64 256)).run Tryz.prog W5 = .ok (.slice (some ⟨W5.heap.size, 0, none⟩) 256 256) (W5.alloc (.cells (madeCells #[.int .u8 0] 256) 5)) := run_make_u8 256 (by decide) W5
    have hbk := bs_made W5 256 (by decide)
    have b6 : Below W5.heap.size W5 (W5.alloc (.cells (madeCells #[.int .u8 0] 256) 5)) := (Below.refl _ W5).alloc (Nat.le_refl _) _
    have hS3 := (hS2.keep b5).keep b6
    have bS3 := (bS2.trans (b5.mono bS2.size)).trans (b6.mono (Nat.le_trans bS2.size b5.size))
    obtain ⟨W6, hW6⟩ : ∃ W6, W5.alloc (.cells (madeCells #[.int .u8 0] 256) 5) = W6 := ⟨_, rfl⟩
    rw [hW6] at hmk hbk hS3 bS3
    have c36 : W6.cell? ⟨q.s, 3, none⟩ = some (.int .i64 0) := hS3.cell.cell (o := 3) rfl
    clear hS2 bS2 b5 b6 hW6
    have hs5 : W5.heap.size = W4.heap.size + 1 := by rw [← hW5]; simp
    rw [← hW5] at hmk
    rw [World.size_alloc] at hmk
    rw [hs5] at hbk
    clear hW5 hs5
    go_wp2_with fail
    clear hmk c36
    generalize hblank : (List.replicate 256 (0 : UInt8)) = blank at *
    have Hb := hid hblank
    clear hblank
    go_loopw [9, 10] (fun sm i wr => ∃ k : Nat, k ≤ n ∧ i = .int .i64 (k : Int) ∧ sm = .bool false ∧ StAt wr q St.fresh (Dk.fresh n) ∧ Below W2.heap.size W2 wr ∧ Bs wr (.slice (some ⟨W4.heap.size + 1, 0, none⟩) 256 256) blank) (fun _ i _ => n - (intOf i).toNat)
    case atStart => exact ⟨0, by omega, rfl, rfl, hS3, bS3, hbk⟩
    case round =>
      obtain ⟨k, hk, rfl, rfl, hSk, bSk, hbkk⟩ := hrel
      have hDk : DkAt wr p (Dk.fresh n) := hqp ▸ hSk.disk
      have hblk := disk_Blocks hDk
      rw [fresh_len] at hblk
      by_cases hkn : k < n
      · have hd : decide ((k : Int) < (n : Int)) = true := decide_eq_true (by omega)
        go_wp2_with fail
        refine hblk.mono ?_
        rintro e W7 ⟨rfl, rfl⟩
        clear hblk
        go_wp2_with fail
        refine (disk_Read_text hDk rfl k blank rfl rfl (by rw [← Hb.out]; exact fresh_texts n k hkn)).mono ?_
        rintro e W8 ⟨g, rfl, hg, hbg, b8⟩
        have hbk8 := hbkk.keep b8
        have hS8 := hSk.keep b8
        have bS8 := bSk.trans (b8.mono bSk.size)
        have heq := bytes_Equal _ _ blank blank W8 hbg hbk8
        rw [beq_self_eq_true] at heq
        have Hbk := hid hbk8
        have Hbg := hid hbg
        clear hbg hbk8 hbkk hSk hDk
        go_wp2_with fail
        refine heq.mono ?_
        rintro e W9 ⟨rfl, rfl⟩
        clear heq
        go_wp2_with fail
        go_roundw
        case rel => exact ⟨k + 1, by omega, by go_num, rfl, hS8, bS8, Hbk.out⟩
        case measure => simp [intOf]; omega
      · obtain rfl : k = n := by omega
        have hd : decide ((k : Int) < (k : Int)) = false := decide_eq_false (by omega)
        go_wp2_with fail
        refine hblk.mono ?_
        rintro e W7 ⟨rfl, rfl⟩
        clear hblk
        go_wp2_with fail
        go_ret2
        exact ⟨q, rfl, hSk, bSk, hqp, Hq.out⟩

end Go.Proofs.YtcdcjoofcbdilaaGreat
