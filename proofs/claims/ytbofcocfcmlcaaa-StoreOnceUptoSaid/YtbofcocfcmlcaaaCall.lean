import Derived.Test.YtbofcocfcmlcaaaLook
import Derived.Test.YtbofcocfcmlcaaaZeros
import Derived.Test.YtbofcocfcmlcaaaBsw
/-! gazettelaw04.Op: its data; gazettelaw04.call. -/
namespace Go.Proofs.Ytbofcocfcmlcaaa
open Go.RowKit

/-- An Op, as it is read. -/
structure Opr where
  kind : Int
  lo : Int
  po : Int
  n : Int
  rep : Bool
  b : List UInt8
  size : Int
  l : List Int

structure OprOk (o : Opr) : Prop where
  kind : -9223372036854775808 ≤ o.kind ∧ o.kind ≤ 9223372036854775807
  lo : -9223372036854775808 ≤ o.lo ∧ o.lo ≤ 9223372036854775807
  po : -9223372036854775808 ≤ o.po ∧ o.po ≤ 9223372036854775807
  n : -9223372036854775808 ≤ o.n ∧ o.n ≤ 9223372036854775807
  size : -9223372036854775808 ≤ o.size ∧ o.size ≤ 9223372036854775807
  b : o.b.length ≤ 1073741824

def Opr.val (o : Opr) (bv lv : Value) : Value := .agg #[.int .i64 o.kind, .int .i64 o.lo, .int .i64 o.po, .int .i64 o.n, .bool o.rep, bv, .int .i64 o.size, lv]

def mod3 (b m : Int) : Int := (b.tmod m + m).tmod m
theorem mod3_bound (b m : Int) (h : 0 < m) : 0 ≤ mod3 b m ∧ mod3 b m < m := by
  unfold mod3
  have h1 := Int.lt_tmod_of_pos b h
  have h2 := Int.tmod_lt_of_pos b h
  have h3 : 0 ≤ b.tmod m + m := by omega
  exact ⟨Int.tmod_nonneg m h3, Int.tmod_lt_of_pos _ h⟩
theorem mod3_wrap (b m : Int) (h : 0 < m) (hm : m ≤ 1073741824) : wrap64 (b.tmod m + m) = b.tmod m + m := by
  have h1 := Int.lt_tmod_of_pos b h
  have h2 := Int.tmod_lt_of_pos b h
  generalize b.tmod m = t at *
  unfold wrap64
  omega
theorem mod3_num (b m : Int) (h : 0 < m) : ∃ k : Nat, (b.tmod m + m).tmod m = (k : Int) ∧ (k : Int) < m ∧ mod3 b m = (k : Int) := by
  obtain ⟨h1, h2⟩ := mod3_bound b m h
  refine ⟨(mod3 b m).toNat, ?_, ?_, ?_⟩
  · unfold mod3 at *; omega
  · omega
  · omega

def Opr.data (o : Opr) : List UInt8 := o.b ++ List.replicate (mod3 o.size 70000).toNat 0
theorem Opr.data_len (o : Opr) (h : OprOk o) : o.data.length ≤ 1073741824 + 70000 := by
  have := h.b
  obtain ⟨h1, h2⟩ := mod3_bound o.size 70000 (by omega)
  simp [Opr.data]
  omega

section
variable {W : World}
set_option maxRecDepth 100000 in
set_option maxHeartbeats 1600000 in
theorem op_data (o : Opr) (ho : OprOk o) (bv lv : Value) (hb : BsW W bv o.b) :
    Calls Try.prog 62 #[o.val bv lv] W fun e w' => ∃ v, e = .returned v ∧ Own8 w' W.heap.size 5 v o.data ∧ Below W.heap.size W w' := by
  obtain ⟨a, c, rfl⟩ := hb.form
  obtain ⟨i0, hi, hz0, hz1, hz2⟩ := info_parts info_u8
  have hlb := ho.b
  obtain ⟨k, hk1, hk2, hk3⟩ := mod3_num o.size 70000 (by omega)
  have hw := mod3_wrap o.size 70000 (by omega) (by omega)
  have hD := hid (show o.data = o.b ++ List.replicate k 0 by unfold Opr.data; rw [hk3]; rfl)
  clear hk3
  unfold Opr.val
  obtain ⟨od, ol, op, on, orp, ob, os, oll⟩ := o
  simp only at *
  have b1 : Below W.heap.size W (W.alloc (.cells #[.int .i64 od, .int .i64 ol, .int .i64 op, .int .i64 on, .bool orp, .slice a ob.length c, .int .i64 os, lv] 48)) := (Below.refl _ W).alloc (Nat.le_refl _) _
  have b2 : Below W.heap.size W ((W.alloc (.cells #[.int .i64 od, .int .i64 ol, .int .i64 op, .int .i64 on, .bool orp, .slice a ob.length c, .int .i64 os, lv] 48)).alloc (.cells #[] 5)) := b1.alloc b1.size _
  have hv2 := hb.keep b2
  have ho2 : Own8 ((W.alloc (.cells #[.int .i64 od, .int .i64 ol, .int .i64 op, .int .i64 on, .bool orp, .slice a ob.length c, .int .i64 os, lv] 48)).alloc (.cells #[] 5)) W.heap.size 5 (.slice (some ⟨W.heap.size + 1, 0, none⟩) 0 0) [] := own8_mk (by simp) (Blk.new' _ _ (by simp) _ _) rfl (Nat.le_refl _) (Nat.zero_le _) rfl (fun i u h => by simp at h)
  have hs2 := b2.size
  clear hb b1
  go_enter Try.func62, Try.ntmps62
  go_wp2_with (first
    | (at_builtin; refine wpList_append8w Try.underlying34 hi hz0 hz1 hz2 rfl (.tmp 9) (.tmp 11) rfl W.heap.size rfl rfl ho2 hv2 (by simp; omega) hs2 ?_; intro v3 W3 ho3 hg3; have bg3 := hid (b2.grown hg3 hs2 (fun k hk => by cases hk; simp)); clear hg3)
    | (at_builtin; obtain ⟨v4, W4, hr4, ho4, hg4⟩ := run_append8_zeros (P := Try.prog) (kq := .i64) (k := k) Try.underlying34 Try.underlying3 hi hz0 hz1 hz2 34 ho3 (by simp; omega) bg3.out.size; refine Lib.wpList_append_run W3 rfl (.tmp 12) (.tmp 13) _ _ rfl _ _ rfl rfl _ _ hr4 ?_; have bg4 := hid (bg3.out.grown hg4 bg3.out.size (fun k hk => (ho3.blk k hk).1)); clear hr4 hg4))
  go_ret
  refine ⟨v4, rfl, ?_, bg4.out⟩
  rw [List.nil_append] at ho4
  rw [hD.out]
  exact ho4

def callF (S : St) (D : Dk) (o : Opr) : Int × St × Dk :=
  if o.kind = 0 then (if 65536 < o.data.length then (6, S, D) else putF S D (mod3 o.lo 3) (mod3 o.po 6) o.data o.rep)
  else if o.kind = 1 then sealF S D (mod3 o.lo 3)
  else if o.kind = 2 then trimF S D (mod3 o.lo 3) (mod3 o.po 6) else (99, S, D)
theorem callF_on {S : St} {D : Dk} (h : On S D) (o : Opr) : On (callF S D o).2.1 (callF S D o).2.2 := by
  unfold callF
  split
  · split
    · exact h
    · exact putF_on h _ _ _ _
  split
  · exact sealF_on h _
  split
  · exact trimF_on h _ _
  · exact h
end
end Go.Proofs.Ytbofcocfcmlcaaa
