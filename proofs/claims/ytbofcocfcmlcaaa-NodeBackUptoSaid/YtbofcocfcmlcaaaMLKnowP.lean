import Derived.Test.YtbofcocfcmlcaaaArgs
import Derived.Test.YtbofcocfcmlcaaaMBsw
import Derived.Test.YtbofcocfcmlcaaaLReq
import Derived.Test.YtbofcocfcmlcaaaMCall
import Derived.Test.YtbofcocfcmlcaaaKnows
/-! Arguments of gazettelaw05: a Request, Requests. -/
namespace Go.Proofs.Ytbofcocfcmlcaaa
open Go.ChangeShapes Go.WideShapes Go.ChangeAt Go.RowKit Go.Deep

/-- The document's request. -/
structure Rq where
  k : Int
  lo : Int
  po : Int
  b : List UInt8
instance : Inhabited Rq := ⟨⟨0, 0, 0, []⟩⟩
def Rq.cells (r : Rq) (v : Value) : Array Value := #[.int .i64 r.k, .int .i64 r.lo, .int .i64 r.po, v]
structure RqOk (r : Rq) : Prop where
  k : -9223372036854775808 ≤ r.k ∧ r.k ≤ 9223372036854775807
  lo : -9223372036854775808 ≤ r.lo ∧ r.lo ≤ 9223372036854775807
  po : -9223372036854775808 ≤ r.po ∧ r.po ≤ 9223372036854775807
  b : r.b.length ≤ 1073741824
def RqAt (w : World) (g f : Nat) (r : Rq) : Prop := ∃ v, (∀ k u, (r.cells v)[k]? = some u → w.cell? ⟨g, f + k, none⟩ = some u) ∧ BsW w v r.b
def Rqs (w : World) (v : Value) (l : List Rq) : Prop := ∃ a c, v = .slice a l.length c ∧ ∀ (i : Nat) r, l[i]? = some r → ∃ g f, a = some ⟨g, f, none⟩ ∧ RqAt w g (f + i * 4) r
theorem RqAt.keep {w w' : World} {g f : Nat} {r : Rq} (h : RqAt w g f r) (hb : Below w.heap.size w w') : RqAt w' g f r := by
  obtain ⟨v, h1, h2⟩ := h
  refine ⟨v, fun k u hk => ?_, h2.keep hb⟩
  have h3 := h1 k u hk
  rw [hb.cell (World.block_lt_of_cell? w _ h3)]
  exact h3
theorem Rqs.keep {w w' : World} {v : Value} {l : List Rq} (h : Rqs w v l) (hb : Below w.heap.size w w') : Rqs w' v l := by
  obtain ⟨a, c, e, h⟩ := h
  exact ⟨a, c, e, fun i r hi => by obtain ⟨g, f, e2, h2⟩ := h i r hi; exact ⟨g, f, e2, h2.keep hb⟩⟩

theorem fields_rq : (Try.prog.fieldsOf 54).toList.map (fun f => (f.type, f.offset)) = [(3, 0), (3, 1), (3, 2), (34, 3)] := by kernel_rfl
theorem under_rq : Try.prog.underlying 54 = some (.struct (Try.prog.fieldsOf 54)) := by kernel_rfl
theorem cells_rq : Try.prog.cellsOf 54 = 4 := by kernel_rfl

section
variable {H : Type} {enc : TypeId × Value → H} {W : World} {fuel : Nat}
set_option maxRecDepth 100000 in
theorem trod_rq {cs : List Value} {x : DataW H × List MemPlace} (hf : DataW.trod enc Try.prog W 0 (fun _ => true) true fuel 54 cs = some x) (hk : Rows.uptoBulk x.1 ≤ 1048576) :
    ∃ (r : Rq) (v : Value), cs.toArray = r.cells v ∧ BsW W v r.b ∧ RqOk r := by
  obtain ⟨xs, n, _, hx, hl, hxl, hfs⟩ := DataW.trod_struct under_rq hf
  rw [cells_rq] at hl
  have hxs : xs.length = 4 := by
    rw [hxl]
    have := congrArg List.length fields_rq
    simpa using this
  have key : ∀ (i : Nat) (ty off : Nat), [(3, 0), (3, 1), (3, 2), (34, 3)][i]? = some (ty, off) → DataW.trod enc Try.prog W 0 (fun _ => true) true n ty ((cs.drop off).take (Try.prog.cellsOf ty)) = xs[i]? := by
    intro i ty off hi
    obtain ⟨f, h1, rfl, rfl⟩ := field_at (P := Try.prog) fields_rq i hi
    exact hfs i f h1
  match cs, hl with
  | [a0, a1, a2, a3], _ =>
    match xs, hxs with
    | [y0, y1, y2, y3], _ =>
      have k0 := key 0 _ _ rfl
      have k1 := key 1 _ _ rfl
      have k2 := key 2 _ _ rfl
      have k3 := key 3 _ _ rfl
      rw [cells_int] at k0 k1 k2
      rw [cells_u8s] at k3
      obtain ⟨z0, rfl, w0⟩ := trod_int_inv Try.underlying3 k0
      obtain ⟨z1, rfl, w1⟩ := trod_int_inv Try.underlying3 k1
      obtain ⟨z2, rfl, w2⟩ := trod_int_inv Try.underlying3 k2
      obtain ⟨l3, h3, n3⟩ := trod_Bs Try.underlying34 k3
      refine ⟨⟨z0, z1, z2, l3⟩, a3, rfl, h3, ⟨wf_i64_bounds w0, wf_i64_bounds w1, wf_i64_bounds w2, ?_⟩⟩
      rw [hx] at hk
      have h1 : Rows.uptoBulk y3.1 ≤ Rows.uptoBulkAll ([y0, y1, y2, y3].map (·.1)) := bulk_part (List.mem_map.2 ⟨y3, by simp, rfl⟩)
      simp only [Rows.uptoBulk] at hk
      show l3.length ≤ 1073741824
      omega

set_option maxRecDepth 100000 in
theorem open_Rqs {v : Value} {d : DataW H} {p : List MemPlace} (hval : Value.okWide Try.prog W .any 0 80 v) (h : DataW.Trod enc Try.prog W 0 (fun _ => true) true 80 v d p) (hk : Rows.uptoBulk d ≤ 1048576) :
    ∃ l, Rqs W v l ∧ l.length ≤ 9223372036854775807 ∧ ∀ o ∈ l, RqOk o := by
  obtain ⟨a0, len0, cap0, rfl⟩ := okWide_slice Try.underlying80 hval
  obtain ⟨fuel, hf⟩ := h
  rcases open_slice Try.underlying80 hf with ⟨hcs, hx⟩ | ⟨a, len, cap, m, n, D, Pl, hcs, _, hl, hm, hmm, hx, hel⟩
  · simp [Value.cells] at hcs
    obtain ⟨rfl, rfl, rfl⟩ := hcs
    exact ⟨[], ⟨none, 0, rfl, fun i o h => by simp at h⟩, by simp, fun o h => by simp at h⟩
  · simp [Value.cells] at hcs
    obtain ⟨rfl, rfl, rfl⟩ := hcs
    simp only [if_true] at hmm
    subst hmm
    have hD : ∀ i, i < len0 → Rows.uptoBulk (D i) ≤ 1048576 := by
      intro i hi
      simp only [Prod.mk.injEq] at hx
      rw [hx.1] at hk
      have h1 := bulk_elems ((List.range len0).map D) ((List.range (m - len0)).map fun j => D (len0 + j))
      have h2 : Rows.uptoBulk (D i) ≤ Rows.uptoBulkAll ((List.range len0).map D) := bulk_part (List.mem_map.2 ⟨i, List.mem_range.2 hi, rfl⟩)
      omega
    have hex : ∀ i, i < len0 → ∃ o : Rq, RqOk o ∧ ∃ g f, a = ⟨g, f, none⟩ ∧ RqAt W g (f + i * 4) o := by
      intro i hi
      obtain ⟨cs, h1, h2⟩ := hel i (by omega)
      obtain ⟨o, bv, hcs, hb, ho⟩ := trod_rq h2 (hD i hi)
      rw [cells_rq] at h1
      obtain ⟨_, hlen, hcell⟩ := World.cells?_some h1
      have hsp : a.spot = none := by
        obtain ⟨cs0, h10, h20⟩ := hel 0 (by omega)
        rw [cells_rq] at h10
        obtain ⟨_, hlen0, hcell0⟩ := World.cells?_some h10
        have := hcell0 0 (by omega)
        rw [List.getElem?_eq_getElem (by omega)] at this
        have := World.cell?_spot this
        simpa [Addr.add] using this
      obtain ⟨g, f, s⟩ := a
      simp only at hsp
      subst hsp
      refine ⟨o, ho, g, f, rfl, bv, fun k v hk => ?_, hb⟩
      have hk8 : k < 4 := by
        rw [← hcs] at hk
        have := (Array.getElem?_eq_some_iff.1 hk).1
        simp at this
        omega
      have := hcell k hk8
      rw [add_plain, add_plain] at this
      rw [this, ← hk, ← hcs]
      simp
    obtain ⟨F, hF⟩ := choose_lt (α := Rq) hex
    refine ⟨(List.range len0).map F, ⟨some a, m, by simp, fun i o hi => ?_⟩, ?_, fun o ho => ?_⟩
    · rw [List.getElem?_map] at hi
      by_cases hlt : i < len0
      · rw [List.getElem?_range hlt] at hi
        simp only [Option.map_some, Option.some.injEq] at hi
        subst hi
        obtain ⟨_, g, f, e, hop⟩ := hF i hlt
        exact ⟨g, f, by rw [e], hop⟩
      · rw [List.getElem?_eq_none (by simp; omega)] at hi
        cases hi
    · unfold maxLen at hm
      simp
      omega
    · obtain ⟨i, hi, rfl⟩ := List.mem_map.1 ho
      exact (hF i (List.mem_range.1 hi)).1
end
end Go.Proofs.Ytbofcocfcmlcaaa

/-! gazettelaw05: sameRequest, sameReply of what is the same. -/
namespace Go.Proofs.Ytbofcocfcmlcaaa
open Go.RowKit

theorem run_bytes_string_w {P : Program} {T S E : TypeId} (hT : P.underlying T = some (.slice E)) (hE : P.underlying E = some (.int .u8)) (hS : P.underlying S = some .string) {w : World} {v : Value} {l : List UInt8} (hv : BsW w v l) :
    (convert T S v).run P w = .ok (.string ⟨l.toArray⟩) w := by
  rcases hv with hv | ⟨rfl, ad, rfl⟩
  · exact run_bytes_string hT hE hS hv
  · rw [run_convert_bytes_string w T S E _ _ _ hT hE hS]
    simp [Conv.bytesToString, loadCells, loadCellsFrom]
    rfl

theorem BsW.drewN {w : World} {v : Value} {l : List UInt8} (h : BsW w v l) (n : Nat) : BsW (w.drewN n) v l := h.keep (below_of_drewN _ w n)

set_option maxRecDepth 100000 in
set_option maxHeartbeats 1600000 in
theorem law_sameRequest (k lo po : Int) (v v' : Value) (l : List UInt8) (W : World) (hv : BsW W v l) (hv' : BsW W v' l) :
    Calls Try.prog 33 #[.agg #[.int .i64 k, .int .i64 lo, .int .i64 po, v], .agg #[.int .i64 k, .int .i64 lo, .int .i64 po, v']] W fun e w' => e = .returned (.bool true) ∧ Below W.heap.size W w' := by
  obtain ⟨a, c, rfl⟩ := hv.form
  obtain ⟨a', c', rfl⟩ := hv'.form
  obtain ⟨W1, hW1⟩ : ∃ W1, W.alloc (.cells #[.int .i64 k, .int .i64 lo, .int .i64 po, .slice a l.length c] 57) = W1 := ⟨_, rfl⟩
  have b1 : Below W.heap.size W W1 := by rw [← hW1]; exact (Below.refl _ W).alloc (Nat.le_refl _) _
  have k1 : Blk W1 W.heap.size #[.int .i64 k, .int .i64 lo, .int .i64 po, .slice a l.length c] 57 := by rw [← hW1]; exact Blk.new W _ _
  obtain ⟨W2, hW2⟩ : ∃ W2, W1.alloc (.cells #[.int .i64 k, .int .i64 lo, .int .i64 po, .slice a' l.length c'] 54) = W2 := ⟨_, rfl⟩
  have b2 : Below W1.heap.size W1 W2 := by rw [← hW2]; exact (Below.refl _ W1).alloc (Nat.le_refl _) _
  have k2 : Blk W2 W1.heap.size #[.int .i64 k, .int .i64 lo, .int .i64 po, .slice a' l.length c'] 54 := by rw [← hW2]; exact Blk.new W1 _ _
  have k12 := k1.keep b2
  have b12 := b1.trans (b2.mono b1.size)
  have hc1 := run_bytes_string_w (P := Try.prog) Try.underlying34 Try.underlying5 Try.underlying9 (hv.keep b12)
  have hc2 := run_bytes_string_w (P := Try.prog) Try.underlying34 Try.underlying5 Try.underlying9 (hv'.keep b12)
  have x0 := k12.cell (o := 0) rfl
  have x1 := k12.cell (o := 1) rfl
  have x2 := k12.cell (o := 2) rfl
  have x3 := k12.cell (o := 3) rfl
  have y0 := k2.cell (o := 0) rfl
  have y1 := k2.cell (o := 1) rfl
  have y2 := k2.cell (o := 2) rfl
  have y3 := k2.cell (o := 3) rfl
  have HB := hid b12
  clear hv hv' b1 k1 b2 k2 k12 b12
  generalize (⟨l.toArray⟩ : ByteArray) = s1 at *
  go_enter Try.func33, Try.ntmps33
  go_wp2_with fail
  go_ret
  exact ⟨rfl, HB.out⟩

set_option maxRecDepth 100000 in
set_option maxHeartbeats 1600000 in
theorem law_sameReply (er tl : Int) (sl : Bool) (v v' : Value) (l : List UInt8) (W : World) (hv : BsW W v l) (hv' : BsW W v' l) :
    Calls Try.prog 34 #[.agg #[.int .i64 er, .int .i64 tl, .bool sl, v], .agg #[.int .i64 er, .int .i64 tl, .bool sl, v']] W fun e w' => e = .returned (.bool true) ∧ Below W.heap.size W w' := by
  obtain ⟨a, c, rfl⟩ := hv.form
  obtain ⟨a', c', rfl⟩ := hv'.form
  obtain ⟨W1, hW1⟩ : ∃ W1, W.alloc (.cells #[.int .i64 er, .int .i64 tl, .bool sl, .slice a l.length c] 60) = W1 := ⟨_, rfl⟩
  have b1 : Below W.heap.size W W1 := by rw [← hW1]; exact (Below.refl _ W).alloc (Nat.le_refl _) _
  have k1 : Blk W1 W.heap.size #[.int .i64 er, .int .i64 tl, .bool sl, .slice a l.length c] 60 := by rw [← hW1]; exact Blk.new W _ _
  obtain ⟨W2, hW2⟩ : ∃ W2, W1.alloc (.cells #[.int .i64 er, .int .i64 tl, .bool sl, .slice a' l.length c'] 56) = W2 := ⟨_, rfl⟩
  have b2 : Below W1.heap.size W1 W2 := by rw [← hW2]; exact (Below.refl _ W1).alloc (Nat.le_refl _) _
  have k2 : Blk W2 W1.heap.size #[.int .i64 er, .int .i64 tl, .bool sl, .slice a' l.length c'] 56 := by rw [← hW2]; exact Blk.new W1 _ _
  have k12 := k1.keep b2
  have b12 := b1.trans (b2.mono b1.size)
  have hc1 : ∀ n, (convert 34 9 (.slice a l.length c)).run Try.prog (W2.drewN n) = .ok (.string ⟨l.toArray⟩) (W2.drewN n) := fun n => run_bytes_string_w (P := Try.prog) Try.underlying34 Try.underlying5 Try.underlying9 ((hv.keep b12).drewN n)
  have hc2 : ∀ n, (convert 34 9 (.slice a' l.length c')).run Try.prog (W2.drewN n) = .ok (.string ⟨l.toArray⟩) (W2.drewN n) := fun n => run_bytes_string_w (P := Try.prog) Try.underlying34 Try.underlying5 Try.underlying9 ((hv'.keep b12).drewN n)
  have x0 := k12.cell (o := 0) rfl
  have x1 := k12.cell (o := 1) rfl
  have x2 := k12.cell (o := 2) rfl
  have x3 := k12.cell (o := 3) rfl
  have y0 := k2.cell (o := 0) rfl
  have y1 := k2.cell (o := 1) rfl
  have y2 := k2.cell (o := 2) rfl
  have y3 := k2.cell (o := 3) rfl
  have HB := hid b12
  clear hv hv' b1 k1 b2 k2 k12 b12
  generalize (⟨l.toArray⟩ : ByteArray) = s1 at *
  go_enter Try.func34, Try.ntmps34
  go_wp2_with fail
  clear hW1 hW2
  go_quiet ((go_at_call 32; exact Calls.quiet_of_same (law5_num _ _)))
  go_wp2_with fail
  go_ret
  exact ⟨rfl, HB.out.trans (below_of_drewN _ _ _)⟩
end Go.Proofs.Ytbofcocfcmlcaaa

/-! Plain laws: bytes that were got as a request or a reply are put the same. -/
namespace Go.Proofs.Ytbofcocfcmlcaaa
open Go.RowKit

theorem byteOf_succ (n j : Nat) : byteOf (n : Int) (j + 1) = byteOf ((n / 256 : Nat) : Int) j := by
  apply UInt8.toNat_inj.1
  rw [byteOf_nat, byteOf_nat, Nat.div_div_eq_div_mul, show 8 * (j + 1) = 8 + 8 * j from by omega, Nat.pow_add]
theorem lowB_cons (n k : Nat) : lowB (n : Int) (k + 1) = byteOf (n : Int) 0 :: lowB ((n / 256 : Nat) : Int) k := by
  unfold lowB
  rw [List.range_succ_eq_map, List.map_cons, List.map_map]
  congr 1
  exact List.map_congr_left (fun j _ => byteOf_succ n j)
theorem low_num : ∀ (l : List UInt8), lowB (numOf l : Int) l.length = l
  | [] => rfl
  | u :: l => by
    have ih := low_num l
    have hu := u.toNat_lt
    have e : numOf (u :: l) = u.toNat + 256 * numOf l := rfl
    have e1 : numOf (u :: l) / 256 = numOf l := by rw [e]; omega
    have e2 : byteOf (numOf (u :: l) : Int) 0 = u := by
      apply UInt8.toNat_inj.1
      rw [byteOf_nat, e]
      simp
    rw [List.length_cons, lowB_cons, e1, e2, ih]
theorem low_num' {l : List UInt8} {k : Nat} (h : l.length = k) : lowB (numOf l : Int) k = l := by subst h; exact low_num l

theorem frame_unframe {b x : List UInt8} {k to : Nat} (h : unframe b = some (k, x, to)) (ht : to = b.length) : frameB (k : Int) x = b := by
  unfold unframe at h
  split at h
  · cases h
  split at h
  · cases h
  split at h
  · cases h
  rename_i h1 h2 h3
  generalize hn : numOf ((b.drop 1).take 4) = n at h h2 h3
  simp only [Option.some.injEq, Prod.mk.injEq] at h
  obtain ⟨rfl, rfl, rfl⟩ := h
  have hxl : ((b.drop 5).take n).length = n := by simp; omega
  have e0 : lowB (numOf (b.take 1) : Int) 1 = b.take 1 := low_num' (by simp; omega)
  have e1 : lowB (((b.drop 5).take n).length : Int) 4 = (b.drop 1).take 4 := by rw [hxl, ← hn]; exact low_num' (by simp; omega)
  have eH : frameH (numOf (b.take 1) : Int) ((b.drop 5).take n) = b.take (5 + n) := by
    have : frameH (numOf (b.take 1) : Int) ((b.drop 5).take n) = lowB (numOf (b.take 1) : Int) 1 ++ (lowB (((b.drop 5).take n).length : Int) 4 ++ (b.drop 5).take n) := rfl
    rw [this, e0, e1, Nat.add_comm 5 n, show n + 5 = 1 + (4 + n) from by omega, List.take_add, List.take_add, List.drop_drop]
  unfold frameB
  rw [eH]
  have e4 : lowB (crcOf (b.take (5 + n)) : Int) 4 = (b.drop (5 + n)).take 4 := by
    rw [← Decidable.not_not.1 h3]
    exact low_num' (by simp; omega)
  rw [e4, ← List.take_add, List.take_of_length_le (by omega)]

theorem body_back {b x : List UInt8} {k least : Nat} (h : bodyF b k least = some x) : frameB (k : Int) x = b ∧ least ≤ x.length := by
  unfold bodyF at h
  cases hu : unframe b with
  | none => rw [hu] at h; cases h
  | some q =>
    obtain ⟨k', x', to⟩ := q
    rw [hu] at h
    simp only at h
    split at h
    · rename_i hc
      cases h
      obtain ⟨rfl, h2, h3⟩ := hc
      exact ⟨frame_unframe hu h2, h3⟩
    · cases h

theorem getReq_back {b d : List UInt8} {k lo po : Nat} (h : getReq b = some (k, lo, po, d)) : rightB k lo po d.length = true ∧ frameB 1 (reqB k lo po d) = b := by
  unfold getReq at h
  cases hb : bodyF b 1 9 with
  | none => rw [hb] at h; cases h
  | some x =>
    rw [hb] at h
    simp only at h
    split at h
    · rename_i hr
      simp only [Option.some.injEq, Prod.mk.injEq] at h
      obtain ⟨rfl, rfl, rfl, rfl⟩ := h
      obtain ⟨hf, hl⟩ := body_back hb
      refine ⟨hr, ?_⟩
      have e : reqB (numOf (x.take 1)) (numOf ((x.drop 1).take 6)) (numOf ((x.drop 7).take 2)) (x.drop 9) = x := by
        unfold reqB
        rw [low_num' (k := 1) (by simp; omega), low_num' (k := 6) (by simp; omega), low_num' (k := 2) (by simp; omega)]
        have q1 : (x.drop 7).take 2 ++ x.drop 9 = x.drop 7 := by
          rw [show x.drop 9 = (x.drop 7).drop 2 from by rw [List.drop_drop]]
          exact List.take_append_drop 2 _
        have q2 : (x.drop 1).take 6 ++ x.drop 7 = x.drop 1 := by
          rw [show x.drop 7 = (x.drop 1).drop 6 from by rw [List.drop_drop]]
          exact List.take_append_drop 6 _
        rw [q1, q2]
        exact List.take_append_drop 1 _
      rw [e]
      exact hf
    · cases h

theorem getRep_back {b d : List UInt8} {e tl : Nat} {sl : Bool} (h : getRep b = some (e, tl, sl, d)) : tellsB e tl d.length = true ∧ putRepB e tl sl d = b := by
  unfold getRep at h
  cases hb : bodyF b 2 4 with
  | none => rw [hb] at h; cases h
  | some x =>
    rw [hb] at h
    simp only at h
    split at h
    · rename_i hr
      simp only [Option.some.injEq, Prod.mk.injEq] at h
      obtain ⟨rfl, rfl, rfl, rfl⟩ := h
      obtain ⟨hf, hl⟩ := body_back hb
      obtain ⟨hr1, hr2⟩ := hr
      refine ⟨hr2, ?_⟩
      unfold putRepB
      rw [if_pos hr2]
      have e3 : ((if decide (numOf ((x.drop 3).take 1) = 1) = true then (1 : Int) else 0)) = (numOf ((x.drop 3).take 1) : Int) := by
        by_cases h1 : numOf ((x.drop 3).take 1) = 1
        · simp [h1]
        · have h0 : numOf ((x.drop 3).take 1) = 0 := by omega
          simp [h0]
      have e : repB (numOf (x.take 1)) (numOf ((x.drop 1).take 2)) (if decide (numOf ((x.drop 3).take 1) = 1) = true then (1 : Int) else 0) (x.drop 4) = x := by
        rw [e3]
        unfold repB
        rw [low_num' (k := 1) (by simp; omega), low_num' (k := 2) (by simp; omega), low_num' (k := 1) (by simp; omega)]
        have q1 : (x.drop 3).take 1 ++ x.drop 4 = x.drop 3 := by
          rw [show x.drop 4 = (x.drop 3).drop 1 from by rw [List.drop_drop]]
          exact List.take_append_drop 1 _
        have q2 : (x.drop 1).take 2 ++ x.drop 3 = x.drop 1 := by
          rw [show x.drop 3 = (x.drop 1).drop 2 from by rw [List.drop_drop]]
          exact List.take_append_drop 2 _
        rw [q1, q2]
        exact List.take_append_drop 1 _
      rw [e]
      exact hf
    · cases h
end Go.Proofs.Ytbofcocfcmlcaaa

/-! gazettelaw05.knows: the plain law. -/
namespace Go.Proofs.Ytbofcocfcmlcaaa
open Go.RowKit

def A1 := askF St.fresh (Dk.fresh 8) (frameB 1 (reqB 1 1 0 [97]))
def A2 := askF A1.2.1 A1.2.2 (frameB 1 (reqB 3 1 0 []))
def A3 := askF A2.2.1 A2.2.2 (frameB 1 (reqB 1 1 1 [98]))
def A4 := askF A3.2.1 A3.2.2 (frameB 1 (reqB 4 1 0 []))
set_option maxRecDepth 100000 in
theorem a1 : getRep A1.1 = some (0, 1, false, []) := by kernel_rfl
set_option maxRecDepth 100000 in
theorem a2 : getRep A2.1 = some (0, 1, true, []) := by kernel_rfl
set_option maxRecDepth 100000 in
theorem a3 : getRep A3.1 = some (30, 1, true, []) := by kernel_rfl
set_option maxRecDepth 100000 in
theorem a4 : getRep A4.1 = some (0, 1, true, [97]) := by kernel_rfl
set_option maxRecDepth 100000 in
theorem al : A1.1.length ≤ 1073741824 ∧ A2.1.length ≤ 1073741824 ∧ A3.1.length ≤ 1073741824 ∧ A4.1.length ≤ 1073741824 := by decide +kernel
end Go.Proofs.Ytbofcocfcmlcaaa
