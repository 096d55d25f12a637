import Derived.Test.YtcdcjoofcbdilaaGreatAccF
import Derived.Test.YtcdcjoofcbdilaaGreatMOpenB
import Derived.Test.YtcdcjoofcbdilaaGreatMQNetP
import Derived.Test.YtcdcjoofcbdilaaGreatMAccA
/-! Package acceptor: told; maps whose keys are a key and a version; facts compared. -/
namespace Go.Proofs.YtcdcjoofcbdilaaGreat
open Go.RowKit

theorem fields_about : (Tryz.prog.fieldsOf 180).toList.map (fun f => (f.name == "_", f.type, f.offset)) = [(false, 3, 0), (false, 3, 1)] := by kernel_rfl

theorem under_about : Tryz.prog.underlying 180 = some (.struct (Tryz.prog.fieldsOf 180)) := by kernel_rfl

theorem held_about : Tryz.prog.stoodInHeld 180 = false := by kernel_rfl

theorem eqFields_about (d : Nat) (a1 a2 b1 b2 : Int) (w : World) : (Op.eqFields (d + 1) #[.int .i64 a1, .int .i64 a2] #[.int .i64 b1, .int .i64 b2] (Tryz.prog.fieldsOf 180).toList).run Tryz.prog w = .ok (a1 == b1 && a2 == b2) w := by
  obtain ⟨f, g, e, hf, hg⟩ := map_two fields_about
  simp only [Prod.mk.injEq] at hf hg
  obtain ⟨h1, h2, h3⟩ := hf
  obtain ⟨h4, h5, h6⟩ := hg
  rw [e]
  simp only [Op.eqFields, ne_eq, beq_eq_false_iff_ne.1 h1, beq_eq_false_iff_ne.1 h4, not_false_eq_true, if_true, h2, h3, h5, h6, Sem.run_bind, part_0, part_1, eqIn_int, Result.andThen_ok]
  cases hA : a1 == b1 <;> cases hB : a2 == b2 <;> simp [part_0, part_1, eqIn_int, Sem.run_bind, hA, hB]

theorem equal_about (a b : Int × Int) (w : World) : (Op.equal 180 (encS a) (encS b)).run Tryz.prog w = .ok (decide (a = b)) w := by
  obtain ⟨a1, a2⟩ := a
  obtain ⟨b1, b2⟩ := b
  unfold Op.equal encS
  rw [show Op.maxDepth = 9998 + 1 + 1 from rfl, run_equalIn_struct w _ _ _ _ under_about held_about, eqFields_about]
  congr 1
  by_cases h1 : a1 = b1 <;> by_cases h2 : a2 = b2 <;> simp [h1, h2]

theorem asking_about (k : Int × Int) (w : World) : ∀ (es : List (Ent (Int × Int))) (i : Nat), (Instr.findAsking 180 (encS k) (es.map (Ent.raw encS)) i).run Tryz.prog w = .ok (mfind k es i) w
  | [], i => by simp [Instr.findAsking, mfind]
  | e :: es, i => by
    simp only [List.map_cons, Instr.findAsking, Sem.run_bind, Ent.raw, equal_about, Result.andThen_ok, mfind]
    by_cases h : k = e.k
    · simp [h]
    · simp only [h, decide_false, Bool.false_eq_true, if_false]
      exact asking_about k w es (i + 1)

theorem check_about (em : Bool) (k : Int × Int) (w : World) : (Instr.checkKey em 10000 180 (encS k)).run Tryz.prog w = .ok () w := by
  obtain ⟨k1, k2⟩ := k
  have hu := run_underlying (P := Tryz.prog) under_about w
  unfold encS
  rw [show (10000 : Nat) = 9998 + 1 + 1 from rfl, Instr.checkKey]
  obtain ⟨f, g, e, hf, hg⟩ := map_two fields_about
  simp only [Prod.mk.injEq] at hf hg
  obtain ⟨h1, h2, h3⟩ := hf
  obtain ⟨h4, h5, h6⟩ := hg
  have e' : Tryz.prog.fieldsOf 180 = #[f, g] := by rw [← Array.toList_inj, e]
  rw [e'] at hu
  simp only [Sem.run_bind, hu, Result.andThen_ok]
  generalize hd : 9998 + 1 = d
  obtain ⟨d, rfl⟩ : ∃ m, d = m + 1 := ⟨9998, hd.symm⟩
  simp [beq_eq_false_iff_ne.1 h1, beq_eq_false_iff_ne.1 h4, h2, h3, h5, h6, Sem.run_bind, part_0, part_1, check_int]

theorem keyLaw_about : KeyLaw Tryz.prog 180 encS where
  check em k w := check_about em k w
  find k es w := by
    rw [run_findKey_eq w (by rw [under_about])]
    exact asking_about k w es 0
  same k := by simp [encS, Instr.sameBits]

/-! ### Facts compared -/
theorem fields_fact : (Tryz.prog.fieldsOf 178).toList.map (fun f => (f.name == "_", f.type, f.offset)) = [(false, 3, 0), (false, 3, 1), (false, 4, 2), (false, 9, 3)] := by kernel_rfl
theorem under_fact : Tryz.prog.underlying 178 = some (.struct (Tryz.prog.fieldsOf 178)) := by kernel_rfl
theorem held_fact : Tryz.prog.stoodInHeld 178 = false := by kernel_rfl
theorem guard_fact : Tryz.prog.eqGuardType Tryz.prog.depth 178 = false := by kernel_rfl
theorem eqIn_boolA (d : Nat) (n m : Bool) (w : World) : (Op.equalIn (d + 1) 4 (.bool n) (.bool m)).run Tryz.prog w = .ok (n == m) w := by
  simp [Op.equalIn, run_underlying Tryz.underlying4]
theorem eqIn_strA (d : Nat) (n m : List UInt8) (w : World) : (Op.equalIn (d + 1) 9 (.string ⟨n.toArray⟩) (.string ⟨m.toArray⟩)).run Tryz.prog w = .ok (n == m) w := by
  have hb : ((⟨n.toArray⟩ : ByteArray) == ⟨m.toArray⟩) = (n == m) := by
    show (n.toArray == m.toArray) = _
    simp
  simp [Op.equalIn, run_underlying Tryz.underlying9, hb]
theorem part_boolA (xs : Array Value) (i : Nat) (n : Bool) (h : xs[i]? = some (.bool n)) (w : World) : (part 4 xs i).run Tryz.prog w = .ok (.bool n) w := run_part_plain w (by kernel_rfl) h
theorem part_strA (xs : Array Value) (i : Nat) (n : ByteArray) (h : xs[i]? = some (.string n)) (w : World) : (part 9 xs i).run Tryz.prog w = .ok (.string n) w := run_part_plain w (by kernel_rfl) h
theorem map_four {α β : Type} {f : α → β} {l : List α} {x y z u : β} (h : l.map f = [x, y, z, u]) : ∃ a b c d, l = [a, b, c, d] ∧ f a = x ∧ f b = y ∧ f c = z ∧ f d = u := by
  match l, h with
  | [a, b, c, d], h => simp at h; exact ⟨a, b, c, d, rfl, h⟩
theorem fa_beq (f g : Fa) : (f.pr == g.pr && (f.ba == g.ba && (f.le == g.le && f.va == g.va))) = decide (f = g) := by
  cases f; cases g
  rw [Bool.eq_iff_iff]
  simp
theorem equal_fact (f g : Fa) (w : World) : (Op.equal 178 (.agg f.cells) (.agg g.cells)).run Tryz.prog w = .ok (decide (f = g)) w := by
  unfold Op.equal Fa.cells
  rw [show Op.maxDepth = 9998 + 1 + 1 from rfl, run_equalIn_struct w _ _ _ _ under_fact held_fact]
  obtain ⟨a, b, c, d, e, ha, hb, hc, hd⟩ := map_four fields_fact
  simp only [Prod.mk.injEq] at ha hb hc hd
  rw [e]
  have p0 := fun (w : World) => part_int f.cells 0 f.pr rfl w
  have p1 := fun (w : World) => part_int f.cells 1 f.ba rfl w
  have p2 := fun (w : World) => part_boolA f.cells 2 f.le rfl w
  have p3 := fun (w : World) => part_strA f.cells 3 ⟨f.va.toArray⟩ rfl w
  have q0 := fun (w : World) => part_int g.cells 0 g.pr rfl w
  have q1 := fun (w : World) => part_int g.cells 1 g.ba rfl w
  have q2 := fun (w : World) => part_boolA g.cells 2 g.le rfl w
  have q3 := fun (w : World) => part_strA g.cells 3 ⟨g.va.toArray⟩ rfl w
  unfold Fa.cells at p0 p1 p2 p3 q0 q1 q2 q3
  rw [← fa_beq]
  simp only [Op.eqFields, ne_eq, beq_eq_false_iff_ne.1 ha.1, beq_eq_false_iff_ne.1 hb.1, beq_eq_false_iff_ne.1 hc.1, beq_eq_false_iff_ne.1 hd.1, not_false_eq_true, if_true, ha.2.1, ha.2.2, hb.2.1, hb.2.2, hc.2.1, hc.2.2, hd.2.1, hd.2.2, Sem.run_bind, p0, q0, Result.andThen_ok, eqIn_int]
  cases hA : f.pr == g.pr <;> cases hB : f.ba == g.ba <;> cases hC : f.le == g.le <;> cases hD : f.va == g.va <;> simp [p0, p1, p2, p3, q0, q1, q2, q3, eqIn_int, eqIn_boolA, eqIn_strA, Sem.run_bind, hA, hB, hC, hD]

theorem size_about : (Tryz.prog.info? 180).map (·.size) = some 2 := by kernel_rfl
/-- '[]byte(s)' of any string. -/
theorem str_convA (W : World) (l : List UInt8) (hl : l.length ≤ 9223372036854775807) :
    ∃ W' c, (convert 9 30 (.string ⟨l.toArray⟩)).run Tryz.prog W = .ok (.slice (some ⟨W.heap.size, 0, none⟩) l.length c) W' ∧ Bs W' (.slice (some ⟨W.heap.size, 0, none⟩) l.length c) l ∧ Below W.heap.size W W' := by
  have h := Lib.run_convert_string_bytes (P := Tryz.prog) W 9 30 5 ⟨l.toArray⟩ Tryz.underlying9 Tryz.underlying30 Tryz.underlying5
  have hz : (⟨l.toArray⟩ : ByteArray).size = l.length := by simp [ByteArray.size]
  have hcap : grownCap W l.length 0 5 ≤ maxLen := grownCap_le_maxLen W l.length 0 _ (by unfold maxLen; omega)
  have hge := grownCap_ge W l.length 0 5
  rw [hz] at h
  refine ⟨_, _, h, Bs.mk rfl hge hcap (fun i u hi => ?_), ?_⟩
  · have hlt : i < l.length := (List.getElem?_eq_some_iff.1 hi).1
    rw [Nat.zero_add, Lib.bytesWorld_cell W 5 ⟨l.toArray⟩ i (by rw [hz]; exact hlt)]
    simp [List.getD_eq_getElem?_getD, hi, bv]
  · exact Lib.below_freeze (((Below.refl _ W).drew).alloc (Nat.le_refl _) _) (Nat.le_refl _) 1

set_option maxRecDepth 100000 in
set_option maxHeartbeats 3200000 in
theorem acc_told (x : Int × Int) (f : Fa) (er : Int) (W : World) (hl : f.va.length ≤ 9223372036854775807) :
    Calls Tryz.prog 107 #[encS x, .agg f.cells, .int .i64 er] W fun e w' => ∃ v, e = .returned (.agg #[.int .i64 er, .int .i64 x.2, .int .i64 f.pr, .int .i64 f.ba, .bool f.le, v]) ∧ Bs w' v f.va ∧ (∀ g, v.ownBlock = some g → W.heap.size ≤ g) ∧ Below W.heap.size W w' := by
  unfold encS Fa.cells
  obtain ⟨W1, hW1⟩ : ∃ W1, W.alloc (.cells #[.int .i64 x.1, .int .i64 x.2] 180) = W1 := ⟨_, rfl⟩
  have b1 : Below W.heap.size W W1 := by rw [← hW1]; exact (Below.refl _ W).alloc (Nat.le_refl _) _
  have kx : Blk W1 W.heap.size #[.int .i64 x.1, .int .i64 x.2] 180 := by rw [← hW1]; exact Blk.new W _ _
  obtain ⟨W2, hW2⟩ : ∃ W2, W1.alloc (.cells #[.int .i64 f.pr, .int .i64 f.ba, .bool f.le, .string ⟨f.va.toArray⟩] 178) = W2 := ⟨_, rfl⟩
  have b2 : Below W1.heap.size W1 W2 := by rw [← hW2]; exact (Below.refl _ W1).alloc (Nat.le_refl _) _
  have kf : Blk W2 W1.heap.size #[.int .i64 f.pr, .int .i64 f.ba, .bool f.le, .string ⟨f.va.toArray⟩] 178 := by rw [← hW2]; exact Blk.new W1 _ _
  obtain ⟨W3, hW3⟩ : ∃ W3, W2.alloc (.cells #[.int .i64 0, .int .i64 0, .int .i64 0, .int .i64 0, .bool false, .slice none 0 0] 44) = W3 := ⟨_, rfl⟩
  have b3 : Below W2.heap.size W2 W3 := by rw [← hW3]; exact (Below.refl _ W2).alloc (Nat.le_refl _) _
  have kr : Blk W3 W2.heap.size #[.int .i64 0, .int .i64 0, .int .i64 0, .int .i64 0, .bool false, .slice none 0 0] 44 := by rw [← hW3]; exact Blk.new W2 _ _
  have kx := (kx.keep b2).keep b3
  have kf := kf.keep b3
  have bW := (b1.trans (b2.mono b1.size)).trans (b3.mono (Nat.le_trans b1.size b2.size))
  have hsz1 := b1.size
  have hsz2 := b2.size
  have hsz3 := kr.lt
  clear b1 b2 b3
  have x1 := kx.cell (o := 1) rfl
  have y0 := kf.cell (o := 0) rfl
  have y1 := kf.cell (o := 1) rfl
  have y2 := kf.cell (o := 2) rfl
  have y3 := kf.cell (o := 3) rfl
  obtain ⟨W4, c, hc, hbs, b4⟩ := str_convA W3 f.va hl
  have kr4 := kr.keep b4
  have bW4 := bW.trans (b4.mono bW.size)
  have HB := hid hbs
  clear hbs b4
  have r0 := kr4.cell (o := 0) rfl
  have f0 := kr4.free 0
  have r1 := kr4.cell (o := 1) rfl
  have f1 := kr4.free 1
  have r2 := kr4.cell (o := 2) rfl
  have f2 := kr4.free 2
  have r3 := kr4.cell (o := 3) rfl
  have f3 := kr4.free 3
  have r4 := kr4.cell (o := 4) rfl
  have f4 := kr4.free 4
  have r5 := kr4.cell (o := 5) rfl
  have f5 := kr4.free 5
  obtain ⟨W7, hW7⟩ : ∃ W7, ((((((W4.setCell ⟨W2.heap.size, 0, none⟩ (.int .i64 er)).setCell ⟨W2.heap.size, 1, none⟩ (.int .i64 x.2)).setCell ⟨W2.heap.size, 2, none⟩ (.int .i64 f.pr)).setCell ⟨W2.heap.size, 3, none⟩ (.int .i64 f.ba)).setCell ⟨W2.heap.size, 4, none⟩ (.bool f.le)).setCell ⟨W2.heap.size, 5, none⟩ (.slice (some ⟨W3.heap.size, 0, none⟩) f.va.length c)) = W7 := ⟨_, rfl⟩
  have k7 := ((((((kr4.set (o := 0) (.int .i64 er)).set (o := 1) (.int .i64 x.2)).set (o := 2) (.int .i64 f.pr)).set (o := 3) (.int .i64 f.ba)).set (o := 4) (.bool f.le)).set (o := 5) (.slice (some ⟨W3.heap.size, 0, none⟩) f.va.length c))
  rw [hW7] at k7
  simp only [List.setIfInBounds_toArray, List.set_cons_zero, List.set_cons_succ] at k7
  have x7 : Ext (fun b => b = W2.heap.size) W4 W7 := by rw [← hW7]; exact (((((((Ext.refl (fun b => b = W2.heap.size) W4).setCell (.inl rfl) _).setCell (.inl rfl) _).setCell (.inl rfl) _).setCell (.inl rfl) _).setCell (.inl rfl) _).setCell (.inl rfl) _)
  have b7 : Below W.heap.size W W7 := bW4.trans (x7.belowOf bW4.size (fun b hb e => by have e2 : b = W2.heap.size := e; omega))
  have s7 : Bs W7 (.slice (some ⟨W3.heap.size, 0, none⟩) f.va.length c) f.va := HB.out.ext x7 (fun k hk _ e => by
    have e2 : k = W2.heap.size := e
    simp [Value.ownBlock] at hk
    omega)
  have HH := hid (And.intro k7 (And.intro b7 s7))
  have HW7 := hid hW7
  clear k7 b7 hW7 x7 s7
  go_enter Tryz.func107, Tryz.ntmps107
  go_wp2_with fail
  rw [HW7.out]
  have hld := run_loadVar_row (P := Tryz.prog) W7 W2.heap.size 44 44 _ (0, 0) _ HH.out.1 Tryz.underlying44 rfl size_ans
  refine bodyPost_ret (v := .agg #[.int .i64 er, .int .i64 x.2, .int .i64 f.pr, .int .i64 f.ba, .bool f.le, .slice (some ⟨W3.heap.size, 0, none⟩) f.va.length c]) ?_ rfl ?_
  · simp [results, Tryz.results107, hld, asAddr]
  · refine ⟨_, rfl, HH.out.2.2, ?_, HH.out.2.1⟩
    intro g hg
    simp [Value.ownBlock] at hg
    omega
end Go.Proofs.YtcdcjoofcbdilaaGreat

/-! Package acceptor: an acceptor in memory. -/
namespace Go.Proofs.YtcdcjoofcbdilaaGreat
open Go.RowKit

theorem mhas_pairs (es : List (Ent (Int × Int))) (k : Int × Int) : mhas es k = (es.map (fun e => (e.k, e.v))).any (fun e => decide (k = e.1)) := by
  unfold mhas
  rw [List.any_map]
  rfl
abbrev Fs.rows (F : Fs) : List ((Int × Int) × Value) := F.map (fun e => (e.1, Value.agg e.2.cells))
theorem Fs.any_rows (F : Fs) (k : Int × Int) : (Fs.rows F).any (fun e => decide (k = e.1)) = F.any (fun e => decide (k = e.1)) := by
  unfold Fs.rows
  rw [List.any_map]
  rfl
theorem facts_get : ∀ (es : List (Ent (Int × Int))) (F : Fs) (k : Int × Int), es.map (fun e => (e.k, e.v)) = Fs.rows F → (mget es k).getD (.agg Fa.zero.cells) = .agg (F.get k).cells
  | [], [], k, _ => rfl
  | [], f :: F, k, h => by simp [Fs.rows] at h
  | e :: es, [], k, h => by simp [Fs.rows] at h
  | e :: es, f :: F, k, h => by
    simp only [List.map_cons, List.cons.injEq, Prod.mk.injEq] at h
    obtain ⟨⟨h1, h2⟩, h3⟩ := h
    have ih := facts_get es F k h3
    unfold mget Fs.get at *
    by_cases hk : k = f.1
    · rw [List.find?_cons_of_pos (by simp [h1, hk]), List.find?_cons_of_pos (by simp [hk])]
      simp [h2]
    · rw [List.find?_cons_of_neg (by simp [h1, hk]), List.find?_cons_of_neg (by simp [hk])]
      exact ih
theorem facts_put (es : List (Ent (Int × Int))) (F : Fs) (k : Int × Int) (f : Fa) (c : Nat) (h : es.map (fun e => (e.k, e.v)) = Fs.rows F) : (mput es k (.agg f.cells) c).map (fun e => (e.k, e.v)) = Fs.rows (F.set k f) := by
  unfold mput Fs.set
  rw [mhas_pairs, h, Fs.any_rows]
  split
  · have h1 : (es.map (fun e => if k = e.k then { e with v := .agg f.cells } else e)).map (fun e => (e.k, e.v)) = (es.map (fun e => (e.k, e.v))).map (fun p => if k = p.1 then (p.1, Value.agg f.cells) else p) := by
      rw [List.map_map, List.map_map]
      apply List.map_congr_left
      intro e _
      simp only [Function.comp]
      split <;> rfl
    rw [h1, h]
    unfold Fs.rows
    rw [List.map_map, List.map_map]
    apply List.map_congr_left
    intro e _
    simp only [Function.comp]
    split <;> rfl
  · rw [List.map_append, h]
    simp [Fs.rows]

structure Fa.ok (f : Fa) : Prop where
  pr : 0 ≤ f.pr ∧ f.pr < 281474976710656
  ba : 0 ≤ f.ba ∧ f.ba < 281474976710656
  va : f.va.length ≤ 4000
theorem Fa.ok_zero : Fa.zero.ok := ⟨by decide, by decide, by decide⟩
theorem Fs.get_ok {F : Fs} (h : ∀ e ∈ F, e.2.ok) (k : Int × Int) : (F.get k).ok := by
  unfold Fs.get
  cases hf : F.find? (fun e => decide (k = e.1)) with
  | none => exact Fa.ok_zero
  | some e => exact h e (List.mem_of_find?_eq_some hf)
theorem Fs.set_ok {F : Fs} (h : ∀ e ∈ F, e.2.ok) (k : Int × Int) {f : Fa} (hf : f.ok) : ∀ e ∈ F.set k f, e.2.ok := by
  unfold Fs.set
  split
  · intro e he
    obtain ⟨e', he', rfl⟩ := List.mem_map.1 he
    split
    · exact hf
    · exact h e' he'
  · intro e he
    rcases List.mem_append.1 he with he | he
    · exact h e he
    · simp at he; subst he; exact hf

structure AccAt (W : World) (n mf : Nat) (pv : Value) (q : StP) (F : Fs) (S : St) (D : Dk) : Prop where
  cell : Blk W n #[pv, .pointer (some ⟨q.s, 0, none⟩), .map (some mf)] 95
  st : StAt W q S D
  on : On S D
  facts : ∃ es c, MapAt W mf encS es c ∧ es.map (fun e => (e.k, e.v)) = Fs.rows F
  small : ∀ e ∈ F, e.2.ok
  out : ¬ q.all n
  outm : ¬ q.all mf
  ne : n ≠ mf
section
variable {W W' : World} {n mf : Nat} {pv : Value} {q q' : StP} {F : Fs} {S S' : St} {D D' : Dk}
theorem AccAt.mlt (h : AccAt W n mf pv q F S D) : mf < W.heap.size := by
  obtain ⟨es, c, hm, _⟩ := h.facts
  exact hm.lt
theorem AccAt.keep (h : AccAt W n mf pv q F S D) (hb : Below W.heap.size W W') : AccAt W' n mf pv q F S D := by
  obtain ⟨es, c, hm, he⟩ := h.facts
  exact ⟨h.cell.keep hb, h.st.keep hb, h.on, ⟨es, c, hm.keep hb, he⟩, h.small, h.out, h.outm, h.ne⟩
theorem AccAt.went (h : AccAt W n mf pv q F S D) (h1 : StAt W' q' S' D') (ho : On S' D') (hw : Went q q' W.heap.size) (hx : Ext q.own W W') : AccAt W' n mf pv q' F S' D' := by
  obtain ⟨es, c, hm, he⟩ := h.facts
  refine ⟨by rw [hw.1]; exact h.cell.ext hx (fun hc => h.out (.inl hc)), h1, ho, ⟨es, c, hm.ext hx (fun hc => h.outm (.inl hc)), he⟩, h.small, fun hc => (hw.2.2.2.2 _ hc).elim h.out (fun hl => by have := h.cell.lt; omega), fun hc => (hw.2.2.2.2 _ hc).elim h.outm (fun hl => by have := h.mlt; omega), h.ne⟩
theorem AccAt.ext2 {fp : Nat → Prop} (h : AccAt W n mf pv q F S D) (hx : Ext fp W W') (hn : ∀ b, fp b → ¬ q.all b) (h1 : ¬ fp n) (h2 : ¬ fp mf) : AccAt W' n mf pv q F S D := by
  obtain ⟨es, c, hm, he⟩ := h.facts
  exact ⟨h.cell.ext hx h1, h.st.ext hx hn, h.on, ⟨es, c, hm.ext hx h2, he⟩, h.small, h.out, h.outm, h.ne⟩
theorem AccAt.look (h : AccAt W n mf pv q F S D) (k : Int × Int) : (Instr.lookup 93 (.map (some mf)) (encS k) false).run Tryz.prog W = .ok (.agg (F.get k).cells) W := by
  obtain ⟨es, c, hm, he⟩ := h.facts
  have hlk := run_lookup_raw (P := Tryz.prog) keyLaw_about hm Tryz.underlying93 k (z := .agg Fa.zero.cells) (fun w => by kernel_rfl) false
  rw [hlk, ← facts_get es F k he]
  rfl
theorem AccAt.put (h : AccAt W n mf pv q F S D) (k : Int × Int) (f : Fa) (hf : f.ok) :
    ∃ w', (Instr.mapUpdate 93 (.map (some mf)) (encS k) (.agg f.cells)).run Tryz.prog W = .ok () w' ∧ AccAt w' n mf pv q (F.set k f) S D ∧ Ext (fun b => b = mf) W w' := by
  obtain ⟨es, c, hm, he⟩ := h.facts
  obtain ⟨w', hr, hm2, hx⟩ := run_update_raw (P := Tryz.prog) keyLaw_about hm Tryz.underlying93 k (.agg f.cells)
  exact ⟨w', hr, ⟨h.cell.ext hx h.ne, h.st.ext hx (fun b hb hc => by have e : b = mf := hb; subst e; exact h.outm hc), h.on, ⟨_, _, hm2, facts_put es F k f c he⟩, Fs.set_ok h.small k hf, h.out, h.outm, h.ne⟩, hx⟩
end
theorem run_eql_fact {o : Oper} {x y : Operand} {t' : TypeId} {a : Act} {f g : Fa} (ho : o.op = .binOp .eql 178 x y t') (hx : a.eval x = .agg f.cells) (hy : a.eval y = .agg g.cells) (w : World) :
    (execOp a.eval o).run Tryz.prog w = .ok (.value (.bool (decide (f = g)))) w := by
  unfold execOp
  have he := equal_fact f g w
  unfold Op.equal at he
  simp [ho, hx, hy, eqGuard, guard_fact, binOp, Sem.run_bind, Op.equal, he]
end Go.Proofs.YtcdcjoofcbdilaaGreat
