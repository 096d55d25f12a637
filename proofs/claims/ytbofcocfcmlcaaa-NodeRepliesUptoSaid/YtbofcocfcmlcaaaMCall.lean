import Derived.Test.YtbofcocfcmlcaaaMLReq
import Derived.Test.YtbofcocfcmlcaaaBase
import Derived.Lib.AppendZerosOnto
import Derived.Test.YtbofcocfcmlcaaaLook
/-! Plain laws: numbers and frames, there and back. -/
namespace Go.Proofs.Ytbofcocfcmlcaaa
open Go.RowKit

theorem lowB_succ (n : Int) (k : Nat) : lowB n (k + 1) = lowB n k ++ [byteOf n k] := by
  unfold lowB
  rw [List.range_succ, List.map_append]
  rfl
theorem byteOf_nat (n k : Nat) : (byteOf (n : Int) k).toNat = n / 2 ^ (8 * k) % 256 := by
  have := byteOf_val (n : Int) k
  have e : (n : Int) / 2 ^ (8 * k) % 256 = ((n / 2 ^ (8 * k) % 256 : Nat) : Int) := by
    rw [Int.natCast_emod, Int.natCast_ediv, Int.natCast_pow]
    rfl
  rw [e] at this
  exact Int.ofNat.inj this
theorem numOf_low (n k : Nat) : numOf (lowB (n : Int) k) = n % 2 ^ (8 * k) := by
  induction k with
  | zero => simp [lowB, numOf, Nat.mod_one]
  | succ k ih =>
    rw [lowB_succ, numOf_snoc, ih, lowB_length, byteOf_nat, show 8 * (k + 1) = 8 * k + 8 from by omega, Nat.pow_add, show (2 : Nat) ^ 8 = 256 from rfl, Nat.mod_mul, Nat.mul_comm (2 ^ (8 * k))]
theorem numOf_low' {n : Nat} {k : Nat} (h : n < 2 ^ (8 * k)) : numOf (lowB (n : Int) k) = n := by rw [numOf_low, Nat.mod_eq_of_lt h]

theorem frame_length (k : Int) (x : List UInt8) : (frameB k x).length = 9 + x.length := by
  simp [frameB, frameH, lowB_length]
  omega

theorem unframe_frame (k : Nat) (x : List UInt8) (hk : k < 256) (hx : x.length ≤ 65536) : unframe (frameB (k : Int) x) = some (k, x, 9 + x.length) := by
  have hl := frame_length (k : Int) x
  have h1 : ((frameB (k : Int) x).drop 1).take 4 = lowB (x.length : Int) 4 := by
    unfold frameB frameH
    rw [List.cons_append, List.drop_succ_cons, List.drop_zero, List.append_assoc, List.take_append_of_le_length (by simp [lowB_length]), List.take_of_length_le (by simp [lowB_length])]
  have h2 : numOf (((frameB (k : Int) x).drop 1).take 4) = x.length := by rw [h1]; exact numOf_low' (by omega)
  have hH : (frameH (k : Int) x).length = 5 + x.length := by simp [frameH, lowB_length]; omega
  have h3 : (frameB (k : Int) x).take (5 + x.length) = frameH (k : Int) x := by
    unfold frameB
    rw [List.take_append_of_le_length (by omega), List.take_of_length_le (by omega)]
  have h4 : ((frameB (k : Int) x).drop (5 + x.length)).take 4 = lowB (crcOf (frameH (k : Int) x)) 4 := by
    unfold frameB
    rw [List.drop_append_of_le_length (by omega), List.drop_eq_nil_of_le (by omega), List.nil_append, List.take_of_length_le (by simp [lowB_length])]
  have h5 : (frameB (k : Int) x).take 1 = lowB (k : Int) 1 := rfl
  have h6 : ((frameB (k : Int) x).drop 5).take x.length = x := by
    have e : (frameB (k : Int) x).drop 5 = x ++ lowB (crcOf (frameH (k : Int) x)) 4 := by
      unfold frameB
      rw [List.drop_append_of_le_length (by omega)]
      congr 1
    rw [e, List.take_append_of_le_length (by omega), List.take_of_length_le (by omega)]
  unfold unframe
  rw [h2, h3, h4, h5, h6, if_neg (by omega), if_neg (by omega), if_neg (by rw [numOf_low' (by have := crcOf_lt (frameH (k : Int) x); omega)]; simp), numOf_low' (by omega)]

theorem bodyF_frame (k least : Nat) (x : List UInt8) (hk : k < 256) (hx : x.length ≤ 65536) (hl : least ≤ x.length) : bodyF (frameB (k : Int) x) k least = some x := by
  unfold bodyF
  rw [unframe_frame k x hk hx]
  simp only
  rw [if_pos ⟨by trivial, (frame_length _ _).symm, hl⟩]

theorem getRep_put (e tl : Nat) (sl : Bool) (l : List UInt8) (h : tellsB e tl l.length = true) : getRep (putRepB e tl sl l) = some (e, tl, sl, l) := by
  have h0 := of_decide_eq_true h
  have hb : bodyF (frameB 2 (repB e tl (if sl then 1 else 0) l)) 2 4 = some (repB e tl (if sl then 1 else 0) l) := bodyF_frame 2 4 _ (by omega) (by simp [repB, lowB_length]; omega) (by simp [repB, lowB_length]; omega)
  unfold putRepB
  rw [if_pos h]
  unfold getRep
  rw [hb]
  have e1 : (repB e tl (if sl then 1 else 0) l).take 1 = lowB (e : Int) 1 := rfl
  have e2 : ((repB e tl (if sl then 1 else 0) l).drop 1).take 2 = lowB (tl : Int) 2 := rfl
  have e3 : ((repB e tl (if sl then 1 else 0) l).drop 3).take 1 = lowB ((if sl then 1 else 0 : Nat) : Int) 1 := by cases sl <;> rfl
  have e4 : (repB e tl (if sl then 1 else 0) l).drop 4 = l := rfl
  simp only [e1, e2, e3, e4]
  rw [numOf_low' (n := e) (by omega), numOf_low' (n := tl) (by omega), numOf_low' (n := if sl then 1 else 0) (by cases sl <;> simp)]
  rw [if_pos ⟨by cases sl <;> simp, h⟩]
  cases sl <;> rfl
theorem getReq_put (k lo po : Nat) (l : List UInt8) (h : rightB k lo po l.length = true) : getReq (frameB 1 (reqB k lo po l)) = some (k, lo, po, l) := by
  have h0 := of_decide_eq_true h
  have hb : bodyF (frameB 1 (reqB k lo po l)) 1 9 = some (reqB k lo po l) := bodyF_frame 1 9 _ (by omega) (by simp [reqB, lowB_length]; omega) (by simp [reqB, lowB_length]; omega)
  unfold getReq
  rw [hb]
  have e1 : (reqB k lo po l).take 1 = lowB (k : Int) 1 := rfl
  have e2 : ((reqB k lo po l).drop 1).take 6 = lowB (lo : Int) 6 := rfl
  have e3 : ((reqB k lo po l).drop 7).take 2 = lowB (po : Int) 2 := rfl
  have e4 : (reqB k lo po l).drop 9 = l := rfl
  simp only [e1, e2, e3, e4]
  rw [numOf_low' (by omega), numOf_low' (by omega), numOf_low' (by omega)]
  rw [if_pos h]
end Go.Proofs.Ytbofcocfcmlcaaa

/-! append of so many zeros (an append of a make) onto bytes of the call's own. No program is named here. -/
namespace Go.Proofs.Ytbofcocfcmlcaaa
open Go.RowKit

theorem zeroCells_u8 (k : Nat) : Builtin.zeroCells #[.int .u8 0] k = ((List.replicate k (0 : UInt8)).map bv).toArray := by
  apply Array.ext
  · simp [size_zeroCells]
  · intro i h1 h2
    simp [Builtin.zeroCells, Nat.mod_one]

theorem run_append8_zeros {P : Program} {T TI E : TypeId} {i : TypeInfo} {kn kq : IntKind} (ht : P.underlying T = some (.slice E)) (hti : P.underlying TI = some (.int kn)) (hi : P.info? E = some i) (hz : i.zero = some (.int .u8 0)) (hsz : i.size = 1) (hby : i.bytes = 1) (ty : TypeId)
    {w : World} {base : Nat} {v : Value} {l : List UInt8} {k : Nat} (hown : Own8 w base E v l) (hlen : l.length + k ≤ 140737488355328) (hbase : base ≤ w.heap.size) :
    ∃ v' w', (Builtin.append_ #[T, TI] ty #[v, .int kq (k : Int)]).run P w = .ok v' w' ∧ Own8 w' base E v' (l ++ List.replicate k 0) ∧ w.grownBy w' v.ownBlock := by
  have hw : IntKind.i64.wrap (k : Int) = k := by rw [IntKind.wrap_i64]; omega
  have hw0 : IntKind.i64.wrap 0 = 0 := by rw [IntKind.wrap_i64]; rfl
  have hneg : ¬ ((k : Int) < 0) := by omega
  have h48i : ¬ (281474976710656 < (k : Int)) := by omega
  have hzc : (Value.int .u8 0).cells = #[.int .u8 0] := rfl
  rcases hown.2 with ⟨rfl, h0⟩ | ⟨g, cap, cur, rfl, hbg, hg, hnc, hcm, hcs, htake⟩
  · have hl : l = [] := List.eq_nil_of_length_eq_zero h0
    subst hl
    by_cases hk : k = 0
    · subst hk
      refine ⟨.slice none 0 0, w, ?_, by simpa using hown, ⟨rfl, rfl, rfl, Nat.le_refl _, fun _ _ _ => rfl⟩⟩
      simp [Builtin.append_, run_underlying ht, run_underlying hti, sizeOf, typeInfo, hi, asInt, asIntOf, hw0, hby]
    · have hr := Lib.run_append_nil_zeros (P := P) w T TI ty E i (.int .u8 0) kq kn ht hti hi hz k (by omega) (by omega) (by omega) (by rw [hby]; omega)
      have hcap : grownCap w k 0 E ≤ maxLen := grownCap_le_maxLen w k 0 _ (by unfold maxLen; omega)
      have hge := grownCap_ge w k 0 E
      refine ⟨_, _, hr, ?_, ⟨rfl, rfl, rfl, by simp, fun j hj _ => Below.heap_alloc w.drew _ j hj⟩⟩
      refine own8_mk hbase (Blk.new w.drew _ _) (by simp) hge hcap ?_ ?_
      · rw [hzc, zeroCells_u8, zeroCells_u8]; simp; omega
      · intro j u hu
        rw [hzc, zeroCells_u8, Array.getElem?_append_left (by simp; have := (List.getElem?_eq_some_iff.1 hu).1; simp at this; omega)]
        simp only [List.getElem?_toArray, List.getElem?_map]
        rw [List.nil_append] at hu
        rw [hu]; rfl
  · by_cases hroom : l.length + k ≤ cap
    · have hst := run_storeCells_at P g l.length E ((List.replicate k (0 : UInt8)).map bv) 0 cur w hg (by simp; omega) (fun u hu => by simp at hu; rw [hu.2]; rfl)
      simp only [Nat.add_zero] at hst
      refine ⟨.slice (some ⟨g, 0, none⟩) (l.length + k) cap, w.setRow g (cur.toList.take l.length ++ (List.replicate k (0 : UInt8)).map bv ++ cur.toList.drop (l.length + ((List.replicate k (0 : UInt8)).map bv).length)).toArray, ?_, ?_, ⟨rfl, rfl, rfl, by simp, fun j _ hj => setRow_other w g j _ (fun e => hj (by simp [Value.ownBlock, e]))⟩⟩
      · by_cases hk : k = 0
        · subst hk
          simp only [List.replicate_zero, List.map_nil, List.append_nil, List.length_nil, Nat.add_zero] at hst ⊢
          simp only [Nat.add_zero] at hroom
          simp [Builtin.append_, run_underlying ht, run_underlying hti, sizeOf, typeInfo, hi, asInt, asIntOf, hw0, hby, hsz, hroom, storeCells, Addr.add_lit]
          rw [setRow_self w g cur E (0, 0) hg]
        · have hst2 := hst
          rw [show ((List.replicate k (0 : UInt8)).map bv) = (Builtin.zeroCells #[.int .u8 0] k).toList from by rw [zeroCells_u8]] at hst2
          simp [Builtin.append_, run_underlying ht, run_underlying hti, sizeOf, typeInfo, zeroValue, hi, hz, asInt, asIntOf, hw, hby, hsz, hroom, hneg, h48i, hk, Addr.add_lit, hzc, hst2]
          simp [zeroCells_u8]
      · have hB : Blk w g cur E := hg
        refine own8_mk hbg (hB.setRow _) (by simp) hroom hcm ?_ ?_
        · simp; omega
        · intro j u hu
          have hlen9 : (cur.toList.take l.length ++ (List.replicate k (0 : UInt8)).map bv) = (l ++ List.replicate k 0).map bv := by
            rw [List.map_append]
            congr 1
            rw [← htake]; simp
          rw [List.getElem?_toArray, hlen9, List.getElem?_append_left (by simp; have := (List.getElem?_eq_some_iff.1 hu).1; simp at this; omega), List.getElem?_map, hu]
          rfl
    · have hk : 0 < k := by omega
      have holds : ∀ j u, (l.map bv)[j]? = some u → w.cell? ((⟨g, 0, none⟩ : Addr).add j) = some u := World.ownsRow.cells hown (g := g) rfl
      have hold := run_firstCells_some (P := P) (w := w.drew) i.size l.length ⟨g, 0, none⟩ l.length cap (l.map bv) (by simp [hsz]) (by simpa using holds)
      have hr := Lib.run_append_grow_zeros (P := P) w T TI ty E i (.int .u8 0) kq kn ht hti hi hz (some ⟨g, 0, none⟩) l.length cap (l.map bv) hold k hk (by omega) (by omega) (by omega) (by rw [hby]; omega) (growslice_fits (by omega) (by rw [hby]; omega))
      have hcap : grownCap w (l.length + k) cap E ≤ maxLen := grownCap_le_maxLen w _ _ _ (by unfold maxLen; omega)
      have hge := grownCap_ge w (l.length + k) cap E
      refine ⟨_, _, hr, ?_, ⟨rfl, rfl, rfl, by simp, fun j hj _ => Below.heap_alloc w.drew _ j hj⟩⟩
      refine own8_mk hbase (Blk.new w.drew _ _) (by simp) hge hcap ?_ ?_
      · rw [hzc, zeroCells_u8, zeroCells_u8]; simp; omega
      · intro j u hu
        rw [hzc, zeroCells_u8, Array.getElem?_append_left (by simp; have := (List.getElem?_eq_some_iff.1 hu).1; simp at this; omega)]
        simp only [List.append_toArray, List.getElem?_toArray, ← List.map_append, List.getElem?_map]
        rw [hu]; rfl
end Go.Proofs.Ytbofcocfcmlcaaa

/-! gazettelaw04.Op: its data; gazettelaw04.call. -/
namespace Go.Proofs.Ytbofcocfcmlcaaa
open Go.RowKit

/-- An Op, as it is read. -/
structure Opr where
  kind : Int
  lo : Int
  po : Int
  n : Int
  rep : Bool
  b : List UInt8
  size : Int
  l : List Int

structure OprOk (o : Opr) : Prop where
  kind : -9223372036854775808 ≤ o.kind ∧ o.kind ≤ 9223372036854775807
  lo : -9223372036854775808 ≤ o.lo ∧ o.lo ≤ 9223372036854775807
  po : -9223372036854775808 ≤ o.po ∧ o.po ≤ 9223372036854775807
  n : -9223372036854775808 ≤ o.n ∧ o.n ≤ 9223372036854775807
  size : -9223372036854775808 ≤ o.size ∧ o.size ≤ 9223372036854775807
  b : o.b.length ≤ 1073741824

def Opr.val (o : Opr) (bv lv : Value) : Value := .agg #[.int .i64 o.kind, .int .i64 o.lo, .int .i64 o.po, .int .i64 o.n, .bool o.rep, bv, .int .i64 o.size, lv]

def mod3 (b m : Int) : Int := (b.tmod m + m).tmod m
theorem mod3_bound (b m : Int) (h : 0 < m) : 0 ≤ mod3 b m ∧ mod3 b m < m := by
  unfold mod3
  have h1 := Int.lt_tmod_of_pos b h
  have h2 := Int.tmod_lt_of_pos b h
  have h3 : 0 ≤ b.tmod m + m := by omega
  exact ⟨Int.tmod_nonneg m h3, Int.tmod_lt_of_pos _ h⟩
theorem mod3_wrap (b m : Int) (h : 0 < m) (hm : m ≤ 1073741824) : wrap64 (b.tmod m + m) = b.tmod m + m := by
  have h1 := Int.lt_tmod_of_pos b h
  have h2 := Int.tmod_lt_of_pos b h
  generalize b.tmod m = t at *
  unfold wrap64
  omega
theorem mod3_num (b m : Int) (h : 0 < m) : ∃ k : Nat, (b.tmod m + m).tmod m = (k : Int) ∧ (k : Int) < m ∧ mod3 b m = (k : Int) := by
  obtain ⟨h1, h2⟩ := mod3_bound b m h
  refine ⟨(mod3 b m).toNat, ?_, ?_, ?_⟩
  · unfold mod3 at *; omega
  · omega
  · omega

def Opr.data (o : Opr) : List UInt8 := o.b ++ List.replicate (mod3 o.size 70000).toNat 0
theorem Opr.data_len (o : Opr) (h : OprOk o) : o.data.length ≤ 1073741824 + 70000 := by
  have := h.b
  obtain ⟨h1, h2⟩ := mod3_bound o.size 70000 (by omega)
  simp [Opr.data]
  omega

section
variable {W : World}
set_option maxRecDepth 100000 in
set_option maxHeartbeats 1600000 in
theorem op_data (o : Opr) (ho : OprOk o) (bv lv : Value) (hb : BsW W bv o.b) :
    Calls Try.prog 62 #[o.val bv lv] W fun e w' => ∃ v, e = .returned v ∧ Own8 w' W.heap.size 5 v o.data ∧ Below W.heap.size W w' := by
  obtain ⟨a, c, rfl⟩ := hb.form
  obtain ⟨i0, hi, hz0, hz1, hz2⟩ := info_parts info_u8
  have hlb := ho.b
  obtain ⟨k, hk1, hk2, hk3⟩ := mod3_num o.size 70000 (by omega)
  have hw := mod3_wrap o.size 70000 (by omega) (by omega)
  have hD := hid (show o.data = o.b ++ List.replicate k 0 by unfold Opr.data; rw [hk3]; rfl)
  clear hk3
  unfold Opr.val
  obtain ⟨od, ol, op, on, orp, ob, os, oll⟩ := o
  simp only at *
  have b1 : Below W.heap.size W (W.alloc (.cells #[.int .i64 od, .int .i64 ol, .int .i64 op, .int .i64 on, .bool orp, .slice a ob.length c, .int .i64 os, lv] 48)) := (Below.refl _ W).alloc (Nat.le_refl _) _
  have b2 : Below W.heap.size W ((W.alloc (.cells #[.int .i64 od, .int .i64 ol, .int .i64 op, .int .i64 on, .bool orp, .slice a ob.length c, .int .i64 os, lv] 48)).alloc (.cells #[] 5)) := b1.alloc b1.size _
  have hv2 := hb.keep b2
  have ho2 : Own8 ((W.alloc (.cells #[.int .i64 od, .int .i64 ol, .int .i64 op, .int .i64 on, .bool orp, .slice a ob.length c, .int .i64 os, lv] 48)).alloc (.cells #[] 5)) W.heap.size 5 (.slice (some ⟨W.heap.size + 1, 0, none⟩) 0 0) [] := own8_mk (by simp) (Blk.new' _ _ (by simp) _ _) rfl (Nat.le_refl _) (Nat.zero_le _) rfl (fun i u h => by simp at h)
  have hs2 := b2.size
  clear hb b1
  go_enter Try.func62, Try.ntmps62
  go_wp2_with (first
    | (at_builtin; refine wpList_append8w Try.underlying34 hi hz0 hz1 hz2 rfl (.tmp 9) (.tmp 11) rfl W.heap.size rfl rfl ho2 hv2 (by simp; omega) hs2 ?_; intro v3 W3 ho3 hg3; have bg3 := hid (b2.grown hg3 hs2 (fun k hk => by cases hk; simp)); clear hg3)
    | (at_builtin; obtain ⟨v4, W4, hr4, ho4, hg4⟩ := run_append8_zeros (P := Try.prog) (kq := .i64) (k := k) Try.underlying34 Try.underlying3 hi hz0 hz1 hz2 34 ho3 (by simp; omega) bg3.out.size; refine Lib.wpList_append_run W3 rfl (.tmp 12) (.tmp 13) _ _ rfl _ _ rfl rfl _ _ hr4 ?_; have bg4 := hid (bg3.out.grown hg4 bg3.out.size (fun k hk => (ho3.blk k hk).1)); clear hr4 hg4))
  go_ret
  refine ⟨v4, rfl, ?_, bg4.out⟩
  rw [List.nil_append] at ho4
  rw [hD.out]
  exact ho4

def callF (S : St) (D : Dk) (o : Opr) : Int × St × Dk :=
  if o.kind = 0 then (if 65536 < o.data.length then (6, S, D) else putF S D (mod3 o.lo 3) (mod3 o.po 6) o.data o.rep)
  else if o.kind = 1 then sealF S D (mod3 o.lo 3)
  else if o.kind = 2 then trimF S D (mod3 o.lo 3) (mod3 o.po 6) else (99, S, D)
theorem callF_on {S : St} {D : Dk} (h : On S D) (o : Opr) : On (callF S D o).2.1 (callF S D o).2.2 := by
  unfold callF
  split
  · split
    · exact h
    · exact putF_on h _ _ _ _
  split
  · exact sealF_on h _
  split
  · exact trimF_on h _ _
  · exact h
end
end Go.Proofs.Ytbofcocfcmlcaaa
