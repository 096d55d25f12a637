import Derived.Test.YtbofcocfcmlcaaaMWLaw
import Derived.Test.YtbofcocfcmlcaaaMLArgs
/-! gazettelaw05: sameRequest, sameReply of what is the same. -/
namespace Go.Proofs.Ytbofcocfcmlcaaa
open Go.RowKit

theorem run_bytes_string_w {P : Program} {T S E : TypeId} (hT : P.underlying T = some (.slice E)) (hE : P.underlying E = some (.int .u8)) (hS : P.underlying S = some .string) {w : World} {v : Value} {l : List UInt8} (hv : BsW w v l) :
    (convert T S v).run P w = .ok (.string ⟨l.toArray⟩) w := by
  rcases hv with hv | ⟨rfl, ad, rfl⟩
  · exact run_bytes_string hT hE hS hv
  · rw [run_convert_bytes_string w T S E _ _ _ hT hE hS]
    simp [Conv.bytesToString, loadCells, loadCellsFrom]
    rfl

theorem BsW.drewN {w : World} {v : Value} {l : List UInt8} (h : BsW w v l) (n : Nat) : BsW (w.drewN n) v l := h.keep (below_of_drewN _ w n)

set_option maxRecDepth 100000 in
set_option maxHeartbeats 1600000 in
theorem law_sameRequest (k lo po : Int) (v v' : Value) (l : List UInt8) (W : World) (hv : BsW W v l) (hv' : BsW W v' l) :
    Calls Try.prog 33 #[.agg #[.int .i64 k, .int .i64 lo, .int .i64 po, v], .agg #[.int .i64 k, .int .i64 lo, .int .i64 po, v']] W fun e w' => e = .returned (.bool true) ∧ Below W.heap.size W w' := by
  obtain ⟨a, c, rfl⟩ := hv.form
  obtain ⟨a', c', rfl⟩ := hv'.form
  obtain ⟨W1, hW1⟩ : ∃ W1, W.alloc (.cells #[.int .i64 k, .int .i64 lo, .int .i64 po, .slice a l.length c] 57) = W1 := ⟨_, rfl⟩
  have b1 : Below W.heap.size W W1 := by rw [← hW1]; exact (Below.refl _ W).alloc (Nat.le_refl _) _
  have k1 : Blk W1 W.heap.size #[.int .i64 k, .int .i64 lo, .int .i64 po, .slice a l.length c] 57 := by rw [← hW1]; exact Blk.new W _ _
  obtain ⟨W2, hW2⟩ : ∃ W2, W1.alloc (.cells #[.int .i64 k, .int .i64 lo, .int .i64 po, .slice a' l.length c'] 54) = W2 := ⟨_, rfl⟩
  have b2 : Below W1.heap.size W1 W2 := by rw [← hW2]; exact (Below.refl _ W1).alloc (Nat.le_refl _) _
  have k2 : Blk W2 W1.heap.size #[.int .i64 k, .int .i64 lo, .int .i64 po, .slice a' l.length c'] 54 := by rw [← hW2]; exact Blk.new W1 _ _
  have k12 := k1.keep b2
  have b12 := b1.trans (b2.mono b1.size)
  have hc1 := run_bytes_string_w (P := Try.prog) Try.underlying34 Try.underlying5 Try.underlying9 (hv.keep b12)
  have hc2 := run_bytes_string_w (P := Try.prog) Try.underlying34 Try.underlying5 Try.underlying9 (hv'.keep b12)
  have x0 := k12.cell (o := 0) rfl
  have x1 := k12.cell (o := 1) rfl
  have x2 := k12.cell (o := 2) rfl
  have x3 := k12.cell (o := 3) rfl
  have y0 := k2.cell (o := 0) rfl
  have y1 := k2.cell (o := 1) rfl
  have y2 := k2.cell (o := 2) rfl
  have y3 := k2.cell (o := 3) rfl
  have HB := hid b12
  clear hv hv' b1 k1 b2 k2 k12 b12
  generalize (⟨l.toArray⟩ : ByteArray) = s1 at *
  go_enter Try.func33, Try.ntmps33
  go_wp2_with fail
  go_ret
  exact ⟨rfl, HB.out⟩

set_option maxRecDepth 100000 in
set_option maxHeartbeats 1600000 in
theorem law_sameReply (er tl : Int) (sl : Bool) (v v' : Value) (l : List UInt8) (W : World) (hv : BsW W v l) (hv' : BsW W v' l) :
    Calls Try.prog 34 #[.agg #[.int .i64 er, .int .i64 tl, .bool sl, v], .agg #[.int .i64 er, .int .i64 tl, .bool sl, v']] W fun e w' => e = .returned (.bool true) ∧ Below W.heap.size W w' := by
  obtain ⟨a, c, rfl⟩ := hv.form
  obtain ⟨a', c', rfl⟩ := hv'.form
  obtain ⟨W1, hW1⟩ : ∃ W1, W.alloc (.cells #[.int .i64 er, .int .i64 tl, .bool sl, .slice a l.length c] 60) = W1 := ⟨_, rfl⟩
  have b1 : Below W.heap.size W W1 := by rw [← hW1]; exact (Below.refl _ W).alloc (Nat.le_refl _) _
  have k1 : Blk W1 W.heap.size #[.int .i64 er, .int .i64 tl, .bool sl, .slice a l.length c] 60 := by rw [← hW1]; exact Blk.new W _ _
  obtain ⟨W2, hW2⟩ : ∃ W2, W1.alloc (.cells #[.int .i64 er, .int .i64 tl, .bool sl, .slice a' l.length c'] 56) = W2 := ⟨_, rfl⟩
  have b2 : Below W1.heap.size W1 W2 := by rw [← hW2]; exact (Below.refl _ W1).alloc (Nat.le_refl _) _
  have k2 : Blk W2 W1.heap.size #[.int .i64 er, .int .i64 tl, .bool sl, .slice a' l.length c'] 56 := by rw [← hW2]; exact Blk.new W1 _ _
  have k12 := k1.keep b2
  have b12 := b1.trans (b2.mono b1.size)
  have hc1 : ∀ n, (convert 34 9 (.slice a l.length c)).run Try.prog (W2.drewN n) = .ok (.string ⟨l.toArray⟩) (W2.drewN n) := fun n => run_bytes_string_w (P := Try.prog) Try.underlying34 Try.underlying5 Try.underlying9 ((hv.keep b12).drewN n)
  have hc2 : ∀ n, (convert 34 9 (.slice a' l.length c')).run Try.prog (W2.drewN n) = .ok (.string ⟨l.toArray⟩) (W2.drewN n) := fun n => run_bytes_string_w (P := Try.prog) Try.underlying34 Try.underlying5 Try.underlying9 ((hv'.keep b12).drewN n)
  have x0 := k12.cell (o := 0) rfl
  have x1 := k12.cell (o := 1) rfl
  have x2 := k12.cell (o := 2) rfl
  have x3 := k12.cell (o := 3) rfl
  have y0 := k2.cell (o := 0) rfl
  have y1 := k2.cell (o := 1) rfl
  have y2 := k2.cell (o := 2) rfl
  have y3 := k2.cell (o := 3) rfl
  have HB := hid b12
  clear hv hv' b1 k1 b2 k2 k12 b12
  generalize (⟨l.toArray⟩ : ByteArray) = s1 at *
  go_enter Try.func34, Try.ntmps34
  go_wp2_with fail
  clear hW1 hW2
  go_quiet ((go_at_call 32; exact Calls.quiet_of_same (law5_num _ _)))
  go_wp2_with fail
  go_ret
  exact ⟨rfl, HB.out.trans (below_of_drewN _ _ _)⟩
end Go.Proofs.Ytbofcocfcmlcaaa

/-! Plain laws: bytes that were got as a request or a reply are put the same. -/
namespace Go.Proofs.Ytbofcocfcmlcaaa
open Go.RowKit

theorem getReq_back {b d : List UInt8} {k lo po : Nat} (h : getReq b = some (k, lo, po, d)) : rightB k lo po d.length = true ∧ frameB 1 (reqB k lo po d) = b := by
  unfold getReq at h
  cases hb : bodyF b 1 9 with
  | none => rw [hb] at h; cases h
  | some x =>
    rw [hb] at h
    simp only at h
    split at h
    · rename_i hr
      simp only [Option.some.injEq, Prod.mk.injEq] at h
      obtain ⟨rfl, rfl, rfl, rfl⟩ := h
      obtain ⟨hf, hl⟩ := body_back hb
      refine ⟨hr, ?_⟩
      have e : reqB (numOf (x.take 1)) (numOf ((x.drop 1).take 6)) (numOf ((x.drop 7).take 2)) (x.drop 9) = x := by
        unfold reqB
        rw [low_num' (k := 1) (by simp; omega), low_num' (k := 6) (by simp; omega), low_num' (k := 2) (by simp; omega)]
        have q1 : (x.drop 7).take 2 ++ x.drop 9 = x.drop 7 := by
          rw [show x.drop 9 = (x.drop 7).drop 2 from by rw [List.drop_drop]]
          exact List.take_append_drop 2 _
        have q2 : (x.drop 1).take 6 ++ x.drop 7 = x.drop 1 := by
          rw [show x.drop 7 = (x.drop 1).drop 6 from by rw [List.drop_drop]]
          exact List.take_append_drop 6 _
        rw [q1, q2]
        exact List.take_append_drop 1 _
      rw [e]
      exact hf
    · cases h

theorem getRep_back {b d : List UInt8} {e tl : Nat} {sl : Bool} (h : getRep b = some (e, tl, sl, d)) : tellsB e tl d.length = true ∧ putRepB e tl sl d = b := by
  unfold getRep at h
  cases hb : bodyF b 2 4 with
  | none => rw [hb] at h; cases h
  | some x =>
    rw [hb] at h
    simp only at h
    split at h
    · rename_i hr
      simp only [Option.some.injEq, Prod.mk.injEq] at h
      obtain ⟨rfl, rfl, rfl, rfl⟩ := h
      obtain ⟨hf, hl⟩ := body_back hb
      obtain ⟨hr1, hr2⟩ := hr
      refine ⟨hr2, ?_⟩
      unfold putRepB
      rw [if_pos hr2]
      have e3 : ((if decide (numOf ((x.drop 3).take 1) = 1) = true then (1 : Int) else 0)) = (numOf ((x.drop 3).take 1) : Int) := by
        by_cases h1 : numOf ((x.drop 3).take 1) = 1
        · simp [h1]
        · have h0 : numOf ((x.drop 3).take 1) = 0 := by omega
          simp [h0]
      have e : repB (numOf (x.take 1)) (numOf ((x.drop 1).take 2)) (if decide (numOf ((x.drop 3).take 1) = 1) = true then (1 : Int) else 0) (x.drop 4) = x := by
        rw [e3]
        unfold repB
        rw [low_num' (k := 1) (by simp; omega), low_num' (k := 2) (by simp; omega), low_num' (k := 1) (by simp; omega)]
        have q1 : (x.drop 3).take 1 ++ x.drop 4 = x.drop 3 := by
          rw [show x.drop 4 = (x.drop 3).drop 1 from by rw [List.drop_drop]]
          exact List.take_append_drop 1 _
        have q2 : (x.drop 1).take 2 ++ x.drop 3 = x.drop 1 := by
          rw [show x.drop 3 = (x.drop 1).drop 2 from by rw [List.drop_drop]]
          exact List.take_append_drop 2 _
        rw [q1, q2]
        exact List.take_append_drop 1 _
      rw [e]
      exact hf
    · cases h
end Go.Proofs.Ytbofcocfcmlcaaa

/-! Arguments of gazettelaw05: a Reply. -/
namespace Go.Proofs.Ytbofcocfcmlcaaa
open Go.ChangeShapes Go.WideShapes Go.ChangeAt Go.RowKit Go.Deep

/-- The document's reply. -/
structure Rp where
  e : Int
  tl : Int
  sl : Bool
  b : List UInt8
def Rp.cells (r : Rp) (v : Value) : Array Value := #[.int .i64 r.e, .int .i64 r.tl, .bool r.sl, v]
structure RpOk (r : Rp) : Prop where
  e : -9223372036854775808 ≤ r.e ∧ r.e ≤ 9223372036854775807
  tl : -9223372036854775808 ≤ r.tl ∧ r.tl ≤ 9223372036854775807
  b : r.b.length ≤ 1073741824
theorem fields_rp : (Try.prog.fieldsOf 56).toList.map (fun f => (f.type, f.offset)) = [(3, 0), (3, 1), (4, 2), (34, 3)] := by kernel_rfl
theorem under_rp : Try.prog.underlying 56 = some (.struct (Try.prog.fieldsOf 56)) := by kernel_rfl
theorem cells_rp : Try.prog.cellsOf 56 = 4 := by kernel_rfl
section
variable {H : Type} {enc : TypeId × Value → H} {W : World} {fuel : Nat}
set_option maxRecDepth 100000 in
theorem trod_rp {cs : List Value} {x : DataW H × List MemPlace} (hf : DataW.trod enc Try.prog W 0 (fun _ => true) true fuel 56 cs = some x) (hk : Rows.uptoBulk x.1 ≤ 1048576) :
    ∃ (r : Rp) (v : Value), cs.toArray = r.cells v ∧ BsW W v r.b ∧ RpOk r := by
  obtain ⟨xs, n, _, hx, hl, hxl, hfs⟩ := DataW.trod_struct under_rp hf
  rw [cells_rp] at hl
  have hxs : xs.length = 4 := by
    rw [hxl]
    have := congrArg List.length fields_rp
    simpa using this
  have key : ∀ (i : Nat) (ty off : Nat), [(3, 0), (3, 1), (4, 2), (34, 3)][i]? = some (ty, off) → DataW.trod enc Try.prog W 0 (fun _ => true) true n ty ((cs.drop off).take (Try.prog.cellsOf ty)) = xs[i]? := by
    intro i ty off hi
    obtain ⟨f, h1, rfl, rfl⟩ := field_at (P := Try.prog) fields_rp i hi
    exact hfs i f h1
  match cs, hl with
  | [a0, a1, a2, a3], _ =>
    match xs, hxs with
    | [y0, y1, y2, y3], _ =>
      have k0 := key 0 _ _ rfl
      have k1 := key 1 _ _ rfl
      have k2 := key 2 _ _ rfl
      have k3 := key 3 _ _ rfl
      rw [cells_int] at k0 k1
      rw [cells_bool] at k2
      rw [cells_u8s] at k3
      obtain ⟨z0, rfl, w0⟩ := trod_int_inv Try.underlying3 k0
      obtain ⟨z1, rfl, w1⟩ := trod_int_inv Try.underlying3 k1
      obtain ⟨z2, rfl⟩ := trod_bool_inv Try.underlying4 k2
      obtain ⟨l3, h3, n3⟩ := trod_Bs Try.underlying34 k3
      refine ⟨⟨z0, z1, z2, l3⟩, a3, rfl, h3, ⟨wf_i64_bounds w0, wf_i64_bounds w1, ?_⟩⟩
      rw [hx] at hk
      have h1 : Rows.uptoBulk y3.1 ≤ Rows.uptoBulkAll ([y0, y1, y2, y3].map (·.1)) := bulk_part (List.mem_map.2 ⟨y3, by simp, rfl⟩)
      simp only [Rows.uptoBulk] at hk
      show l3.length ≤ 1073741824
      omega

end
end Go.Proofs.Ytbofcocfcmlcaaa
