import Derived.Test.YtpkaepmmkojdaaaMParts
import Derived.Lib.AppendZeros
import Derived.Test.YtpkaepmmkojdaaaMap
import Derived.Deep.MidRow
import Derived.Carry
import Derived.Deep.QuietTactic
/-! The walks of package slices (Grow, Concat, Clone) and bytes (Equal) at bytes. -/
namespace Go.Proofs.Ytpkaepmmkojdaaa
open Go.RowKit

theorem run_slice_to {P : Program} {T E : TypeId} (hT : P.underlying T = some (.slice E)) (hE : (P.info? E).map (·.size) = some 1) (a : Option Addr) (n c : Nat) (hi : Int) (h1 : 0 ≤ hi) (h2 : hi ≤ c) (W : World) :
    (Instr.slice T (.slice a n c) none (some (.int .i64 hi)) none).run P W = .ok (.slice a hi.toNat c) W := by
  have hs : (sizeOf E).run P W = .ok 1 W := by
    cases hq : P.info? E with
    | none => simp [hq] at hE
    | some i =>
      simp [hq] at hE
      simp [sizeOf, typeInfo, hq, hE]
  have e1 : ∀ (code : BoundsCode), (Instr.sliceBound (.int .i64 hi) c code).run P W = .ok hi.toNat W := fun code => run_sliceBound (P := P) (w := W) .i64 hi c code h1 h2
  have e3 : (if c = 0 then a else a.map (·.add (0 * 1))) = a := by
    split
    · rfl
    · cases a <;> simp [Addr.add]
  simp [Instr.slice, Instr.sliceBounds, run_underlying hT, e1, hs, Sem.run_bind]
  intro _
  cases a <;> simp [Addr.add]

theorem own8_grown {w : World} {c : Array Value} {t : TypeId} {cap : Nat} (hs : c.size = cap) (hm : cap ≤ maxLen) : Own8 (w.alloc (.cells c t)) w.heap.size t (.slice (some ⟨w.heap.size, 0, none⟩) 0 cap) [] :=
  own8_mk (Nat.le_refl _) (Blk.new w c t) rfl (Nat.zero_le _) hm hs (fun i u h => by simp at h)

set_option maxRecDepth 100000 in
set_option maxHeartbeats 800000 in
theorem slices_Grow (n : Int) (w : World) (h0 : 0 ≤ n) (h1 : n ≤ 1073741824) :
    Calls Try.prog 52 #[.slice none 0 0, .int .i64 n] w fun e w' => ∃ v, e = .returned v ∧ Own8 w' w.heap.size 5 v [] ∧ Below w.heap.size w w' := by
  obtain ⟨i0, hi, hz0, hz1, hz2⟩ := info_parts info_u8
  obtain ⟨m, rfl⟩ := Int.eq_ofNat_of_zero_le h0
  by_cases hm : m = 0
  · subst hm
    go_enter Try.func52, Try.ntmps52
    go_wp2_with fail
    go_ret
    exact ⟨_, rfl, Own8.nil _ _ _, Below.refl _ _⟩
  · have hpos : 0 < m := by omega
    have hra := Lib.run_append_nil_zeros (P := Try.prog) w 40 3 40 5 i0 (.int .u8 0) .i64 .i64 Try.underlying40 Try.underlying3 hi hz0 m hpos (by omega) (by omega) (by rw [hz2]; omega)
    have hcap : grownCap w m 0 5 ≤ maxLen := grownCap_le_maxLen w m 0 _ (by unfold maxLen; omega)
    have hge := grownCap_ge w m 0 5
    have hsz : (Builtin.zeroCells (Value.int .u8 0).cells m ++ Builtin.zeroCells (Value.int .u8 0).cells (grownCap w m 0 5 - m)).size = grownCap w m 0 5 := by
      rw [Array.size_append, size_zeroCells, size_zeroCells]
      simp [Value.cells]
      omega
    have hsl1 : ∀ W, (Instr.slice 40 (.slice none 0 0) none (some (.int .i64 0)) none).run Try.prog W = .ok (.slice none 0 0) W := fun W => by kernel_rfl
    have ho := own8_grown (w := w.drew) (t := 5) hsz hcap
    have hbb : Below w.heap.size w (w.drew.alloc (.cells (Builtin.zeroCells (Value.int .u8 0).cells m ++ Builtin.zeroCells (Value.int .u8 0).cells (grownCap w m 0 5 - m)) 5)) := (Below.refl _ w).drew.alloc (Nat.le_refl _) _
    generalize hW : w.drew.alloc (.cells (Builtin.zeroCells (Value.int .u8 0).cells m ++ Builtin.zeroCells (Value.int .u8 0).cells (grownCap w m 0 5 - m)) 5) = W at *
    generalize grownCap w m 0 5 = cap at *
    clear hW hsz
    have hsl2 : ∀ W, (Instr.slice 40 (.slice (some ⟨w.heap.size, 0, none⟩) m cap) none (some (.int .i64 0)) none).run Try.prog W = .ok (.slice (some ⟨w.heap.size, 0, none⟩) 0 cap) W := fun W =>
      run_slice_to Try.underlying40 szu8 _ m cap 0 (by omega) (by omega) W
    go_enter Try.func52, Try.ntmps52
    go_wp2_with (at_builtin; refine Lib.wpList_append_run w rfl _ _ _ _ rfl _ _ rfl rfl _ _ hra ?_)
    go_ret
    exact ⟨_, rfl, ho, hbb⟩

theorem sum_len_le (ls : List (List UInt8)) (j : Nat) : (ls.take j).flatten.length ≤ ls.flatten.length := by
  conv => rhs; rw [← List.take_append_drop j ls, List.flatten_append, List.length_append]
  omega

set_option maxRecDepth 100000 in
set_option maxHeartbeats 1600000 in
theorem slices_Concat (g n c : Nat) (vs : List Value) (ls : List (List UInt8)) (w : World) (hn : n = vs.length) (hp : Parts w g vs ls) (hvs : vs.length ≤ 64) (hls : ls.flatten.length ≤ 1073741824) :
    Calls Try.prog 34 #[.slice (some ⟨g, 0, none⟩) n c] w fun e w' => ∃ v, e = .returned v ∧ Own8 w' w.heap.size 5 v ls.flatten ∧ Below w.heap.size w w' := by
  subst hn
  obtain ⟨i0, hi, hz0, hz1, hz2⟩ := info_parts info_u8
  go_enter Try.func34, Try.ntmps34
  go_wp2_with fail
  go_loop [3, 5, 11] (fun sz t i => ∃ j : Nat, j ≤ vs.length ∧ i = .int .i64 j ∧ sz = .int .i64 (((ls.take j).flatten.length : Nat) : Int)) (fun _ _ i => vs.length - (intOf i).toNat)
  case atStart => exact ⟨0, by omega, rfl, rfl⟩
  case round =>
    obtain ⟨j, hj, rfl, rfl⟩ := hrel
    have hle := sum_len_le ls j
    by_cases hlt : j < vs.length
    · obtain ⟨x, hx⟩ : ∃ x, vs[j]? = some x := ⟨vs[j], by simp⟩
      obtain ⟨l, hl⟩ : ∃ l, ls[j]? = some l := ⟨ls[j]'(by have := hp.1; omega), by simp⟩
      have hc := hp.2.1 j x hx
      have hB := hp.2.2 j x l hx hl
      obtain ⟨ax, cx, rfl⟩ := hB.form
      have hlen := take_flat_le ls j l hl
      have HE := hid (congrArg List.length (take_flat ls j l hl))
      generalize hq : (ls.take j).flatten.length = q at *
      have Hq := hid hq
      clear hB hq
      go_wp2_with fail
      go_round
      case rel => exact ⟨j + 1, by omega, by go_num, by rw [HE.out, List.length_append, Hq.out]; rfl⟩
      case measure => simp [intOf]; omega
    · obtain rfl : j = vs.length := by omega
      rw [hp.1, List.take_length] at *
      have hd : decide ((ls.length : Int) < (ls.length : Int)) = false := by simp
      have hpl := hp.1
      generalize hq : ls.flatten.length = q at *
      have Hq := hid hq
      clear hq
      have Hpl := hid hpl
      clear hpl
      go_wp2_with fail
      refine (slices_Grow _ _ (by omega) (by omega)).mono ?_
      rintro e W1 ⟨v1, rfl, o1, b1⟩
      have hp1 := hp.keep b1
      go_wp2_with fail
      go_loopw [6, 8, 27] (fun v t i wr => ∃ j : Nat, j ≤ ls.length ∧ i = .int .i64 j ∧ Own8 wr w.heap.size 5 v (ls.take j).flatten ∧ Below w.heap.size w wr) (fun _ _ i _ => ls.length - (intOf i).toNat)
      case atStart => exact ⟨0, by omega, rfl, o1, b1⟩
      case round =>
        obtain ⟨j, hj, rfl, ho, hb⟩ := hrel
        by_cases hlt : j < ls.length
        · obtain ⟨x, hx⟩ : ∃ x, vs[j]? = some x := ⟨vs[j]'(by rw [Hpl.out]; exact hlt), by simp⟩
          obtain ⟨l, hl⟩ : ∃ l, ls[j]? = some l := ⟨ls[j], by simp⟩
          have hp' := hp.keep hb
          have hc := hp'.2.1 j x hx
          have hB := hp'.2.2 j x l hx hl
          have hlen : (ls.take j).flatten.length + l.length ≤ 1073741824 := by
            have h1 := take_flat_le ls j l hl
            have h2 := Hq.out
            omega
          have HE := hid (take_flat ls j l hl)
          go_wp2_with (at_builtin; refine wpList_append8 Try.underlying40 hi hz0 hz1 hz2 rfl _ _ rfl w.heap.size rfl rfl ho hB (by omega) hb.size ?_; intro v' w1 ho' hg _)
          go_roundw
          case rel => exact ⟨j + 1, by omega, by go_num, by rw [HE.out]; exact ho', hb.grown hg hb.size (fun k hk => (ho.blk k hk).1)⟩
          case measure => simp [intOf]; omega
        · obtain rfl : j = ls.length := by omega
          rw [List.take_length] at ho
          have hd : decide ((ls.length : Int) < (ls.length : Int)) = false := by simp
          go_wp2_with fail
          go_ret
          exact ⟨_, rfl, ho, hb⟩

theorem fold_push (l : List UInt8) : ∀ (s : ByteArray), (l.map (fun b => ((b.toNat : Nat) : Int))).foldl (fun r n => r.push (UInt8.ofNat n.toNat)) s = ⟨s.data ++ l.toArray⟩ := by
  induction l with
  | nil => intro s; simp
  | cons x l ih =>
    intro s
    rw [List.map_cons, List.foldl_cons, ih]
    simp [ByteArray.push]

theorem run_bytes_string {P : Program} {T S E : TypeId} (hT : P.underlying T = some (.slice E)) (hE : P.underlying E = some (.int .u8)) (hS : P.underlying S = some .string) {w : World} {v : Value} {l : List UInt8} (hv : Bs w v l) :
    (convert T S v).run P w = .ok (.string ⟨l.toArray⟩) w := by
  rcases hv.cases with ⟨rfl, rfl⟩ | ⟨g, o, c, rfl, hc, hm, hr⟩ | ⟨rfl, ad, rfl⟩
  · rw [run_convert_bytes_string w T S E _ _ _ hT hE hS]
    simp [Conv.bytesToString]
    rfl
  rotate_left
  · rw [run_convert_bytes_string w T S E _ _ _ hT hE hS]
    simp [Conv.bytesToString, loadCells, loadCellsFrom]
    rfl
  · rw [run_convert_bytes_string w T S E _ _ _ hT hE hS, run_bytesToString w ⟨g, o, none⟩ l.length c (l.map (fun b => ((b.toNat : Nat) : Int))), fold_push]
    · rw [show ByteArray.empty.data ++ l.toArray = l.toArray from by simp [ByteArray.empty, ByteArray.emptyWithCapacity]; rfl]
    · have := run_loadCells_list (P := P) w ⟨g, o, none⟩ (l.map bv) (fun j u hu => by
        simp only [List.getElem?_map, Option.map_eq_some_iff] at hu
        obtain ⟨b, hb, rfl⟩ := hu
        have := hr j b hb
        unfold Addr.add
        split
        · rename_i hz
          subst hz
          simpa using this
        · exact this)
      rw [List.length_map] at this
      rw [this, List.map_map]
      rfl

theorem bytes_beq (l m : List UInt8) : ((⟨l.toArray⟩ : ByteArray).toList == (⟨m.toArray⟩ : ByteArray).toList) = (l == m) := by
  rw [ByteArray.toList_mk, ByteArray.toList_mk]

set_option maxRecDepth 100000 in
set_option maxHeartbeats 800000 in
theorem slices_Clone (v : Value) (l : List UInt8) (w : World) (hv : Bs w v l) (hl : l.length ≤ 1073741824) :
    Calls Try.prog 50 #[v] w fun e w' => ∃ v', e = .returned v' ∧ Bs w' v' l ∧ Own8 w' w.heap.size 5 v' l ∧ Below w.heap.size w w' := by
  obtain ⟨i0, hi, hz0, hz1, hz2⟩ := info_parts info_u8
  rcases hv.cases with ⟨rfl, rfl⟩ | ⟨g, o, c, rfl, hc, hm, hr⟩ | ⟨rfl, ad, rfl⟩
  · have hen := fun W => Lib.run_eql_slice_nil (P := Try.prog) W 40 5 none 0 0 0 0 Try.underlying40
    go_enter Try.func50, Try.ntmps50
    go_wp2_with fail
    go_ret
    exact ⟨_, rfl, Bs.nil _, Own8.nil _ _ _, Below.refl _ _⟩
  · have hen := fun W => Lib.run_eql_slice_nil (P := Try.prog) W 40 5 (some ⟨g, o, none⟩) l.length c 0 0 Try.underlying40
    go_enter Try.func50, Try.ntmps50
    have hpos := hv
    have ho : Own8 (w.alloc (.cells #[] 5)) w.heap.size 5 (.slice (some ⟨w.heap.size, 0, none⟩) 0 0) [] := own8_mk (Nat.le_refl _) (Blk.new _ _ _) rfl (Nat.le_refl _) (Nat.zero_le _) rfl (fun i u h => by simp at h)
    have hb : Below w.heap.size w (w.alloc (.cells #[] 5)) := (Below.refl _ w).alloc (Nat.le_refl _) _
    have hv1 := hv.keep hb
    clear hr hv hpos
    go_wp2_with (at_builtin; refine wpList_append8 Try.underlying40 hi hz0 hz1 hz2 rfl _ _ rfl w.heap.size rfl rfl ho hv1 (by simp; omega) (by simp) ?_; intro v' w1 ho' hg _)
    have hb1 := hb.grown hg (by simp) (fun k hk => by cases hk; exact Nat.le_refl _)
    obtain ⟨a', c', rfl⟩ := ho'.form
    go_wp2_with fail
    go_ret
    exact ⟨_, rfl, ho'.bs, ho', hb1⟩
  · have hen := fun W => Lib.run_eql_slice_nil (P := Try.prog) W 40 5 (some ad) 0 0 0 0 Try.underlying40
    go_enter Try.func50, Try.ntmps50
    have hpos := hv
    have ho : Own8 (w.alloc (.cells #[] 5)) w.heap.size 5 (.slice (some ⟨w.heap.size, 0, none⟩) 0 0) [] := own8_mk (Nat.le_refl _) (Blk.new _ _ _) rfl (Nat.le_refl _) (Nat.zero_le _) rfl (fun i u h => by simp at h)
    have hb : Below w.heap.size w (w.alloc (.cells #[] 5)) := (Below.refl _ w).alloc (Nat.le_refl _) _
    have hv1 := hv.keep hb
    clear hv hpos
    go_wp2_with (at_builtin; refine wpList_append8 Try.underlying40 hi hz0 hz1 hz2 rfl _ _ rfl w.heap.size rfl rfl ho hv1 (by simp) (by simp) ?_; intro v' w1 ho' hg _)
    have hb1 := hb.grown hg (by simp) (fun k hk => by cases hk; exact Nat.le_refl _)
    obtain ⟨a', c', rfl⟩ := ho'.form
    go_wp2_with fail
    go_ret
    exact ⟨_, rfl, ho'.bs, ho', hb1⟩

set_option maxRecDepth 100000 in
set_option maxHeartbeats 800000 in
theorem bytes_Equal (v x : Value) (l m : List UInt8) (w : World) (hv : Bs w v l) (hx : Bs w x m) :
    Calls Try.prog 18 #[v, x] w fun e w' => e = .returned (.bool (l == m)) ∧ w = w' := by
  have h1 := run_bytes_string (P := Try.prog) Try.underlying40 Try.underlying5 Try.underlying9 hv
  have h2 := run_bytes_string (P := Try.prog) Try.underlying40 Try.underlying5 Try.underlying9 hx
  have hbq := bytes_beq l m
  obtain ⟨a, c, rfl⟩ := hv.form
  obtain ⟨a', c', rfl⟩ := hx.form
  clear hv hx
  generalize (⟨l.toArray⟩ : ByteArray) = s1 at *
  generalize (⟨m.toArray⟩ : ByteArray) = s2 at *
  go_enter Try.func18, Try.ntmps18
  go_wp2_with fail
  go_ret
  exact ⟨by rw [← hbq]; rfl, rfl⟩

end Go.Proofs.Ytpkaepmmkojdaaa

/-! Package disk: what lies in memory, and the walks of New, none, Blocks, Down. -/
namespace Go.Proofs.Ytpkaepmmkojdaaa
open Go.RowKit

/-- A disk. -/
structure Dk where
  texts : List (List UInt8)
  bad : Int → Bool
  vers : Int → Option (List UInt8)
  off : Bool
  fuse : Int

/-- Where it lies: the struct, its rows, its two maps; V: the blocks of what it wrote since. -/
structure DkP where
  d : Nat
  gt : Nat
  mb : Nat
  mv : Nat
  V : Nat → Prop

def VerAt (W : World) (V : Nat → Prop) (v : Value) (t : List UInt8) : Prop := ∃ g c, v = .slice (some ⟨g, 0, none⟩) 1 c ∧ 1 ≤ c ∧ V g ∧ W.rangeAt g 0 (t.map bv)

structure DkAt (W : World) (p : DkP) (D : Dk) : Prop where
  cell : Blk W p.d #[.slice (some ⟨p.gt, 0, none⟩) D.texts.length D.texts.length, .map (some p.mb), .map (some p.mv), .bool D.off, .int .i64 D.fuse] 55
  rows : ∀ i t, D.texts[i]? = some t → W.rangeAt p.gt (256 * i) (t.map bv)
  free : ∀ o, W.frozen? ⟨p.gt, o, none⟩ = false
  lens : ∀ t ∈ D.texts, t.length = 256
  pos : 0 < D.texts.length
  most : D.texts.length ≤ 4096
  bads : ∃ es c, MapAt W p.mb encI es c ∧ (∀ k, D.bad k = mhas es k) ∧ ∀ e ∈ es, e.v = .bool true
  vers : ∃ es c, MapAt W p.mv encI es c ∧ (∀ k, (D.vers k).isSome = mhas es k) ∧ ∀ e ∈ es, ∃ t, D.vers e.k = some t ∧ VerAt W p.V e.v t ∧ 0 ≤ e.k ∧ e.k < D.texts.length ∧ t.length = 256
  ne : p.d ≠ p.gt ∧ p.d ≠ p.mb ∧ p.d ≠ p.mv ∧ p.gt ≠ p.mb ∧ p.gt ≠ p.mv ∧ p.mb ≠ p.mv
  low : ¬ p.V p.d ∧ ¬ p.V p.gt ∧ ¬ p.V p.mb ∧ ¬ p.V p.mv
  base : p.d < W.heap.size ∧ p.gt < W.heap.size ∧ p.mb < W.heap.size ∧ p.mv < W.heap.size ∧ ∀ b, p.V b → b < W.heap.size
  fuse : -1 ≤ D.fuse ∧ D.fuse ≤ 9223372036854775807

theorem rangeAt_ext {fp : Nat → Prop} {W W' : World} {b o : Nat} {cs : List Value} (h : W.rangeAt b o cs) (he : Ext fp W W') (hn : ¬ fp b) : W'.rangeAt b o cs := fun j v hv => ext_cell (h j v hv) he hn
theorem frozen_ext {fp : Nat → Prop} {W W' : World} {a : Addr} (he : Ext fp W W') (hl : a.block < W.heap.size) (hn : ¬ fp a.block) : W'.frozen? a = W.frozen? a := World.frozen?_of_block (he.block a.block hl hn)
theorem VerAt.ext {fp : Nat → Prop} {W W' : World} {V : Nat → Prop} {v : Value} {t : List UInt8} (h : VerAt W V v t) (he : Ext fp W W') (hn : ∀ b, fp b → ¬ V b) : VerAt W' V v t := by
  obtain ⟨g, c, rfl, h1, h2, h3⟩ := h
  exact ⟨g, c, rfl, h1, h2, rangeAt_ext h3 he (fun h => hn g h h2)⟩
theorem DkAt.base' {W W' : World} {p : DkP} (h : p.d < W.heap.size ∧ p.gt < W.heap.size ∧ p.mb < W.heap.size ∧ p.mv < W.heap.size ∧ ∀ b, p.V b → b < W.heap.size) (hs : W.heap.size ≤ W'.heap.size) :
    p.d < W'.heap.size ∧ p.gt < W'.heap.size ∧ p.mb < W'.heap.size ∧ p.mv < W'.heap.size ∧ ∀ b, p.V b → b < W'.heap.size :=
  ⟨by omega, by omega, by omega, by omega, fun b hb => by have := h.2.2.2.2 b hb; omega⟩
/-- The blocks that a disk's calls turn; all of its blocks. -/
def DkP.own (p : DkP) (b : Nat) : Prop := b = p.d ∨ b = p.gt ∨ b = p.mb ∨ b = p.mv
def DkP.all (p : DkP) (b : Nat) : Prop := p.own b ∨ p.V b
/-- The disk where only blocks other than its own were turned. -/
theorem DkAt.ext {fp : Nat → Prop} {W W' : World} {p : DkP} {D : Dk} (h : DkAt W p D) (he : Ext fp W W') (h1 : ¬ fp p.d) (h2 : ¬ fp p.gt) (h3 : ¬ fp p.mb) (h4 : ¬ fp p.mv) (hn : ∀ b, fp b → ¬ p.V b) : DkAt W' p D where
  cell := h.cell.ext he h1
  rows := fun i t ht => rangeAt_ext (h.rows i t ht) he h2
  free := fun o => by rw [frozen_ext he h.base.2.1 h2]; exact h.free o
  lens := h.lens
  pos := h.pos
  most := h.most
  bads := by obtain ⟨es, c, hm, hr⟩ := h.bads; exact ⟨es, c, hm.ext he h3, hr⟩
  vers := by
    obtain ⟨es, c, hm, hr, hv⟩ := h.vers
    refine ⟨es, c, hm.ext he h4, hr, fun e hm => ?_⟩
    obtain ⟨t, q1, q2, q3⟩ := hv e hm
    exact ⟨t, q1, q2.ext he hn, q3⟩
  ne := h.ne
  low := h.low
  base := DkAt.base' h.base he.size
  fuse := h.fuse
theorem DkAt.extAll {fp : Nat → Prop} {W W' : World} {p : DkP} {D : Dk} (h : DkAt W p D) (he : Ext fp W W') (hn : ∀ b, fp b → ¬ p.all b) : DkAt W' p D :=
  h.ext he (fun h => hn _ h (.inl (.inl rfl))) (fun h => hn _ h (.inl (.inr (.inl rfl)))) (fun h => hn _ h (.inl (.inr (.inr (.inl rfl))))) (fun h => hn _ h (.inl (.inr (.inr (.inr rfl))))) (fun b h hv => hn b h (.inr hv))
theorem DkAt.lt {W : World} {p : DkP} {D : Dk} (h : DkAt W p D) {b : Nat} (hb : p.all b) : b < W.heap.size := by
  have := h.base
  rcases hb with (rfl | rfl | rfl | rfl) | hb
  · exact this.1
  · exact this.2.1
  · exact this.2.2.1
  · exact this.2.2.2.1
  · exact this.2.2.2.2 b hb
theorem DkAt.keep {W W' : World} {p : DkP} {D : Dk} (h : DkAt W p D) (hb : Below W.heap.size W W') : DkAt W' p D := h.ext (fp := nofp) (Ext.ofBelow hb) id id id id (fun _ h => h.elim)

def Dk.fresh (n : Nat) : Dk := { texts := List.replicate n (List.replicate 256 0), bad := fun _ => false, vers := fun _ => none, off := false, fuse := -1 }

theorem info_text : ((Try.prog.info? 78).map (fun i => (i.zero.map (·.cells), i.size, i.bytes))) = some (some (Array.replicate 256 (.int .u8 0)), 256, 256) := by kernel_rfl

theorem run_make_texts (k : Nat) (hk : k ≤ 4096) (w : World) : (Instr.makeSlice 51 (.int .i64 (k : Int)) (.int .i64 (k : Int))).run Try.prog w = .ok (.slice (some ⟨w.heap.size, 0, none⟩) k k) (w.alloc (.cells (madeCells (Array.replicate 256 (.int .u8 0)) (k * 256)) 78)) := by
  obtain ⟨i, hi, he⟩ := Option.map_eq_some_iff.1 info_text
  simp only [Prod.mk.injEq, Option.map_eq_some_iff] at he
  obtain ⟨⟨z, hz, hzc⟩, hs, hb⟩ := he
  have h := run_make (P := Try.prog) w 51 78 i z Try.underlying51 hi hz .i64 .i64 (k : Int) (k : Int) (by omega) (by omega) (by rw [hb]; omega) (by omega)
  rw [hs, hzc] at h
  simpa using h

theorem made_zero (m j : Nat) (h : j < m) : (madeCells (Array.replicate 256 (Value.int .u8 0)) m)[j]? = some (bv 0) := by
  simp [madeCells, h]
  rw [getElem!_pos _ _ (by simp; exact Nat.mod_lt _ (by decide))]
  simp

set_option maxRecDepth 100000 in
set_option maxHeartbeats 800000 in
theorem disk_New (n : Nat) (w : World) (h1 : 1 ≤ n) (h2 : n ≤ 4096) :
    Calls Try.prog 4 #[.int .i64 (n : Int)] w fun e w' => ∃ p, e = .returned (.tuple #[.pointer (some ⟨p.d, 0, none⟩), .int .i64 0]) ∧ DkAt w' p (Dk.fresh n) ∧ Below w.heap.size w w' ∧ (∀ b, p.all b → w.heap.size ≤ b) := by
  have hd1 : decide ((n : Int) < 1) = false := by simp; omega
  have hd2 : decide ((n : Int) > 4096) = false := by simp; omega
  have hmk := run_make_texts n h2 w
  obtain ⟨W1, hW1⟩ : ∃ W1, w.alloc (.cells (madeCells (Array.replicate 256 (.int .u8 0)) (n * 256)) 78) = W1 := ⟨_, rfl⟩
  rw [hW1] at hmk
  have hs1 : W1.heap.size = w.heap.size + 1 := by rw [← hW1]; simp
  have hmm := @run_makeMap Try.prog
  go_enter Try.func4, Try.ntmps4
  go_wp2_with fail
  have hW : Below w.heap.size w W1 := by rw [← hW1]; exact (Below.refl _ w).alloc (Nat.le_refl _) _
  have hrow : ∀ j, j < n * 256 → W1.cell? ⟨w.heap.size, j, none⟩ = some (bv 0) := fun j hj => by
    rw [← hW1]; exact (Blk.new w _ _).cell (made_zero _ _ hj)
  have hfr : ∀ o, W1.frozen? ⟨w.heap.size, o, none⟩ = false := fun o => by rw [← hW1]; exact (Blk.new w _ _).free o
  go_ret2
  refine ⟨⟨w.heap.size + 1 + 1 + 1, w.heap.size, w.heap.size + 1, w.heap.size + 1 + 1, fun _ => False⟩, rfl, ?_, ?_, ?_⟩
  · have hx : Below W1.heap.size W1 (((W1.alloc (.map #[] 0)).alloc (.map #[] 0)).alloc (.cells #[.slice (some ⟨w.heap.size, 0, none⟩) n n, .map (some (w.heap.size + 1)), .map (some (w.heap.size + 1 + 1)), .bool false, .int .i64 (-1)] 55)) :=
      ((((Below.refl _ W1).alloc (Nat.le_refl _) _).alloc (by simp) _).alloc (by simp; omega) _)
    constructor
    · rw [Dk.fresh]
      simp only [List.length_replicate]
      exact Blk.new' _ _ (by simp; omega) _ _
    · intro i t ht j v hv
      simp only [Dk.fresh, List.getElem?_replicate] at ht
      split at ht
      · cases ht
        rename_i hi
        simp only [List.map_replicate, List.getElem?_replicate] at hv
        split at hv
        · cases hv
          rename_i hj
          rw [hx.cell (show w.heap.size < W1.heap.size by omega)]
          exact hrow _ (by omega)
        · cases hv
      · cases ht
    · intro o
      have := World.frozen?_of_block (a := ⟨w.heap.size, o, none⟩) (hx.block w.heap.size (by omega))
      exact this.trans (hfr o)
    · intro t ht
      simp only [Dk.fresh, List.mem_replicate] at ht
      rw [ht.2]; simp
    · simp only [Dk.fresh, List.length_replicate]; omega
    · simp only [Dk.fresh, List.length_replicate]; omega
    · refine ⟨[], 0, ?_, fun k => rfl, fun e he => by simp at he⟩
      have := (MapAt.new W1 encI).keep (w' := ((W1.alloc (.map #[] 0)).alloc (.map #[] 0)).alloc (.cells #[.slice (some ⟨w.heap.size, 0, none⟩) n n, .map (some (w.heap.size + 1)), .map (some (w.heap.size + 1 + 1)), .bool false, .int .i64 (-1)] 55)) (((Below.refl _ _).alloc (Nat.le_refl _) _).alloc (by simp) _)
      rw [hs1] at this
      exact this
    · refine ⟨[], 0, ?_, fun k => rfl, fun e he => by simp at he⟩
      have := (MapAt.new (W1.alloc (.map #[] 0)) encI).keep (w' := ((W1.alloc (.map #[] 0)).alloc (.map #[] 0)).alloc (.cells #[.slice (some ⟨w.heap.size, 0, none⟩) n n, .map (some (w.heap.size + 1)), .map (some (w.heap.size + 1 + 1)), .bool false, .int .i64 (-1)] 55)) ((Below.refl _ _).alloc (Nat.le_refl _) _)
      rw [World.size_alloc, hs1] at this
      exact this
    · simp; omega
    · exact ⟨id, id, id, id⟩
    · refine ⟨?_, ?_, ?_, ?_, fun b hb => hb.elim⟩
      all_goals simp
      all_goals omega
    · simp [Dk.fresh]
  · exact ((hW.alloc (by omega) _).alloc (by simp; omega) _).alloc (by simp; omega) _
  · rintro b ((hb | hb | hb | hb) | hb)
    · simp at hb; omega
    · simp at hb; omega
    · simp at hb; omega
    · simp at hb; omega
    · exact hb.elim

section
variable {W : World} {p : DkP} {D : Dk}

set_option maxHeartbeats 800000 in
theorem disk_none (h : DkAt W p D) : Calls Try.prog 25 #[.pointer (some ⟨p.d, 0, none⟩)] W fun e w' => e = .returned (.bool false) ∧ w' = W := by
  have c0 := h.cell.cell (o := 0) rfl
  have hd0 : ¬ ((D.texts.length : Int) = 0) := by have := h.pos; omega
  have hd : decide ((D.texts.length : Int) = 0) = false := decide_eq_false hd0
  have hd2 : ((D.texts.length : Int) == 0) = false := beq_eq_false_iff_ne.2 hd0
  go_enter Try.func25, Try.ntmps25
  go_wp2_with fail
  go_ret
  exact ⟨rfl, rfl⟩

set_option maxHeartbeats 800000 in
theorem disk_Blocks (h : DkAt W p D) : Calls Try.prog 13 #[.pointer (some ⟨p.d, 0, none⟩)] W fun e w' => e = .returned (.int .i64 (D.texts.length : Int)) ∧ w' = W := by
  go_enter Try.func13, Try.ntmps13
  go_wp2_with fail
  refine (disk_none h).mono ?_
  rintro e W1 ⟨rfl, rfl⟩
  have c0 := h.cell.cell (o := 0) rfl
  go_wp2_with fail
  go_ret
  exact ⟨rfl, rfl⟩

set_option maxHeartbeats 800000 in
theorem disk_Down (h : DkAt W p D) : Calls Try.prog 14 #[.pointer (some ⟨p.d, 0, none⟩)] W fun e w' => e = .returned (.bool D.off) ∧ w' = W := by
  go_enter Try.func14, Try.ntmps14
  go_wp2_with fail
  refine (disk_none h).mono ?_
  rintro e W1 ⟨rfl, rfl⟩
  have c3 := h.cell.cell (o := 3) rfl
  go_wp2_with fail
  go_ret
  exact ⟨rfl, rfl⟩
end

end Go.Proofs.Ytpkaepmmkojdaaa
