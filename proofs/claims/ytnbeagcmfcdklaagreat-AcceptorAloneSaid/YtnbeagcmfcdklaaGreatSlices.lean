import Derived.Test.YtnbeagcmfcdklaaGreatMJoin
import Derived.Lib.AppendZeros
/-! The walks of package slices (Grow, Concat, Clone) and bytes (Equal) at bytes. -/
namespace Go.Proofs.YtnbeagcmfcdklaaGreat
open Go.RowKit

theorem run_slice_to {P : Program} {T E : TypeId} (hT : P.underlying T = some (.slice E)) (hE : (P.info? E).map (·.size) = some 1) (a : Option Addr) (n c : Nat) (hi : Int) (h1 : 0 ≤ hi) (h2 : hi ≤ c) (W : World) :
    (Instr.slice T (.slice a n c) none (some (.int .i64 hi)) none).run P W = .ok (.slice a hi.toNat c) W := by
  have hs : (sizeOf E).run P W = .ok 1 W := by
    cases hq : P.info? E with
    | none => simp [hq] at hE
    | some i =>
      simp [hq] at hE
      simp [sizeOf, typeInfo, hq, hE]
  have e1 : ∀ (code : BoundsCode), (Instr.sliceBound (.int .i64 hi) c code).run P W = .ok hi.toNat W := fun code => run_sliceBound (P := P) (w := W) .i64 hi c code h1 h2
  have e3 : (if c = 0 then a else a.map (·.add (0 * 1))) = a := by
    split
    · rfl
    · cases a <;> simp [Addr.add]
  simp [Instr.slice, Instr.sliceBounds, run_underlying hT, e1, hs, Sem.run_bind]
  intro _
  cases a <;> simp [Addr.add]

theorem own8_grown {w : World} {c : Array Value} {t : TypeId} {cap : Nat} (hs : c.size = cap) (hm : cap ≤ maxLen) : Own8 (w.alloc (.cells c t)) w.heap.size t (.slice (some ⟨w.heap.size, 0, none⟩) 0 cap) [] :=
  own8_mk (Nat.le_refl _) (Blk.new w c t) rfl (Nat.zero_le _) hm hs (fun i u h => by simp at h)

set_option maxRecDepth 100000 in
set_option maxHeartbeats 800000 in
theorem slices_Grow (n : Int) (w : World) (h0 : 0 ≤ n) (h1 : n ≤ 1073741824) :
    Calls Tryz.prog 66 #[.slice none 0 0, .int .i64 n] w fun e w' => ∃ v, e = .returned v ∧ Own8 w' w.heap.size 5 v [] ∧ Below w.heap.size w w' := by
  obtain ⟨i0, hi, hz0, hz1, hz2⟩ := info_parts info_u8
  obtain ⟨m, rfl⟩ := Int.eq_ofNat_of_zero_le h0
  by_cases hm : m = 0
  · subst hm
    go_enter Tryz.func66, Tryz.ntmps66
    go_wp2_with fail
    go_ret
    exact ⟨_, rfl, Own8.nil _ _ _, Below.refl _ _⟩
  · have hpos : 0 < m := by omega
    have hra := Lib.run_append_nil_zeros (P := Tryz.prog) w 22 3 22 5 i0 (.int .u8 0) .i64 .i64 Tryz.underlying22 Tryz.underlying3 hi hz0 m hpos (by omega) (by omega) (by rw [hz2]; omega)
    have hcap : grownCap w m 0 5 ≤ maxLen := grownCap_le_maxLen w m 0 _ (by unfold maxLen; omega)
    have hge := grownCap_ge w m 0 5
    have hsz : (Builtin.zeroCells (Value.int .u8 0).cells m ++ Builtin.zeroCells (Value.int .u8 0).cells (grownCap w m 0 5 - m)).size = grownCap w m 0 5 := by
      rw [Array.size_append, size_zeroCells, size_zeroCells]
      simp [Value.cells]
      omega
    have hsl1 : ∀ W, (Instr.slice 22 (.slice none 0 0) none (some (.int .i64 0)) none).run Tryz.prog W = .ok (.slice none 0 0) W := fun W => by kernel_rfl
    have ho := own8_grown (w := w.drew) (t := 5) hsz hcap
    have hbb : Below w.heap.size w (w.drew.alloc (.cells (Builtin.zeroCells (Value.int .u8 0).cells m ++ Builtin.zeroCells (Value.int .u8 0).cells (grownCap w m 0 5 - m)) 5)) := (Below.refl _ w).drew.alloc (Nat.le_refl _) _
    generalize hW : w.drew.alloc (.cells (Builtin.zeroCells (Value.int .u8 0).cells m ++ Builtin.zeroCells (Value.int .u8 0).cells (grownCap w m 0 5 - m)) 5) = W at *
    generalize grownCap w m 0 5 = cap at *
    clear hW hsz
    have hsl2 : ∀ W, (Instr.slice 22 (.slice (some ⟨w.heap.size, 0, none⟩) m cap) none (some (.int .i64 0)) none).run Tryz.prog W = .ok (.slice (some ⟨w.heap.size, 0, none⟩) 0 cap) W := fun W =>
      run_slice_to Tryz.underlying22 szu8 _ m cap 0 (by omega) (by omega) W
    go_enter Tryz.func66, Tryz.ntmps66
    go_wp2_with (at_builtin; refine Lib.wpList_append_run w rfl _ _ _ _ rfl _ _ rfl rfl _ _ hra ?_)
    go_ret
    exact ⟨_, rfl, ho, hbb⟩

theorem sum_len_le (ls : List (List UInt8)) (j : Nat) : (ls.take j).flatten.length ≤ ls.flatten.length := by
  conv => rhs; rw [← List.take_append_drop j ls, List.flatten_append, List.length_append]
  omega

set_option maxRecDepth 100000 in
set_option maxHeartbeats 1600000 in
theorem slices_Concat (g n c : Nat) (vs : List Value) (ls : List (List UInt8)) (w : World) (hn : n = vs.length) (hp : Parts w g vs ls) (hvs : vs.length ≤ 64) (hls : ls.flatten.length ≤ 1073741824) :
    Calls Tryz.prog 36 #[.slice (some ⟨g, 0, none⟩) n c] w fun e w' => ∃ v, e = .returned v ∧ Own8 w' w.heap.size 5 v ls.flatten ∧ Below w.heap.size w w' := by
  subst hn
  obtain ⟨i0, hi, hz0, hz1, hz2⟩ := info_parts info_u8
  go_enter Tryz.func36, Tryz.ntmps36
  go_wp2_with fail
  go_loop [3, 5, 11] (fun sz t i => ∃ j : Nat, j ≤ vs.length ∧ i = .int .i64 j ∧ sz = .int .i64 (((ls.take j).flatten.length : Nat) : Int)) (fun _ _ i => vs.length - (intOf i).toNat)
  case atStart => exact ⟨0, by omega, rfl, rfl⟩
  case round =>
    obtain ⟨j, hj, rfl, rfl⟩ := hrel
    have hle := sum_len_le ls j
    by_cases hlt : j < vs.length
    · obtain ⟨x, hx⟩ : ∃ x, vs[j]? = some x := ⟨vs[j], by simp⟩
      obtain ⟨l, hl⟩ : ∃ l, ls[j]? = some l := ⟨ls[j]'(by have := hp.1; omega), by simp⟩
      have hc := hp.2.1 j x hx
      have hB := hp.2.2 j x l hx hl
      obtain ⟨ax, cx, rfl⟩ := hB.form
      have hlen := take_flat_le ls j l hl
      have HE := hid (congrArg List.length (take_flat ls j l hl))
      generalize hq : (ls.take j).flatten.length = q at *
      have Hq := hid hq
      clear hB hq
      go_wp2_with fail
      go_round
      case rel => exact ⟨j + 1, by omega, by go_num, by rw [HE.out, List.length_append, Hq.out]; rfl⟩
      case measure => simp [intOf]; omega
    · obtain rfl : j = vs.length := by omega
      rw [hp.1, List.take_length] at *
      have hd : decide ((ls.length : Int) < (ls.length : Int)) = false := by simp
      have hpl := hp.1
      generalize hq : ls.flatten.length = q at *
      have Hq := hid hq
      clear hq
      have Hpl := hid hpl
      clear hpl
      go_wp2_with fail
      refine (slices_Grow _ _ (by omega) (by omega)).mono ?_
      rintro e W1 ⟨v1, rfl, o1, b1⟩
      have hp1 := hp.keep b1
      go_wp2_with fail
      go_loopw [6, 8, 27] (fun v t i wr => ∃ j : Nat, j ≤ ls.length ∧ i = .int .i64 j ∧ Own8 wr w.heap.size 5 v (ls.take j).flatten ∧ Below w.heap.size w wr) (fun _ _ i _ => ls.length - (intOf i).toNat)
      case atStart => exact ⟨0, by omega, rfl, o1, b1⟩
      case round =>
        obtain ⟨j, hj, rfl, ho, hb⟩ := hrel
        by_cases hlt : j < ls.length
        · obtain ⟨x, hx⟩ : ∃ x, vs[j]? = some x := ⟨vs[j]'(by rw [Hpl.out]; exact hlt), by simp⟩
          obtain ⟨l, hl⟩ : ∃ l, ls[j]? = some l := ⟨ls[j], by simp⟩
          have hp' := hp.keep hb
          have hc := hp'.2.1 j x hx
          have hB := hp'.2.2 j x l hx hl
          have hlen : (ls.take j).flatten.length + l.length ≤ 1073741824 := by
            have h1 := take_flat_le ls j l hl
            have h2 := Hq.out
            omega
          have HE := hid (take_flat ls j l hl)
          go_wp2_with (at_builtin; refine wpList_append8 Tryz.underlying22 hi hz0 hz1 hz2 rfl _ _ rfl w.heap.size rfl rfl ho hB (by omega) hb.size ?_; intro v' w1 ho' hg _)
          go_roundw
          case rel => exact ⟨j + 1, by omega, by go_num, by rw [HE.out]; exact ho', hb.grown hg hb.size (fun k hk => (ho.blk k hk).1)⟩
          case measure => simp [intOf]; omega
        · obtain rfl : j = ls.length := by omega
          rw [List.take_length] at ho
          have hd : decide ((ls.length : Int) < (ls.length : Int)) = false := by simp
          go_wp2_with fail
          go_ret
          exact ⟨_, rfl, ho, hb⟩

theorem fold_push (l : List UInt8) : ∀ (s : ByteArray), (l.map (fun b => ((b.toNat : Nat) : Int))).foldl (fun r n => r.push (UInt8.ofNat n.toNat)) s = ⟨s.data ++ l.toArray⟩ := by
  induction l with
  | nil => intro s; simp
  | cons x l ih =>
    intro s
    rw [List.map_cons, List.foldl_cons, ih]
    simp [ByteArray.push]

theorem run_bytes_string {P : Program} {T S E : TypeId} (hT : P.underlying T = some (.slice E)) (hE : P.underlying E = some (.int .u8)) (hS : P.underlying S = some .string) {w : World} {v : Value} {l : List UInt8} (hv : Bs w v l) :
    (convert T S v).run P w = .ok (.string ⟨l.toArray⟩) w := by
  rcases hv.cases with ⟨rfl, rfl⟩ | ⟨g, o, c, rfl, hc, hm, hr⟩
  · rw [run_convert_bytes_string w T S E _ _ _ hT hE hS]
    simp [Conv.bytesToString]
    rfl
  · rw [run_convert_bytes_string w T S E _ _ _ hT hE hS, run_bytesToString w ⟨g, o, none⟩ l.length c (l.map (fun b => ((b.toNat : Nat) : Int))), fold_push]
    · rw [show ByteArray.empty.data ++ l.toArray = l.toArray from by simp [ByteArray.empty, ByteArray.emptyWithCapacity]; rfl]
    · have := run_loadCells_list (P := P) w ⟨g, o, none⟩ (l.map bv) (fun j u hu => by
        simp only [List.getElem?_map, Option.map_eq_some_iff] at hu
        obtain ⟨b, hb, rfl⟩ := hu
        have := hr j b hb
        unfold Addr.add
        split
        · rename_i hz
          subst hz
          simpa using this
        · exact this)
      rw [List.length_map] at this
      rw [this, List.map_map]
      rfl

theorem bytes_beq (l m : List UInt8) : ((⟨l.toArray⟩ : ByteArray).toList == (⟨m.toArray⟩ : ByteArray).toList) = (l == m) := by
  rw [ByteArray.toList_mk, ByteArray.toList_mk]

set_option maxRecDepth 100000 in
set_option maxHeartbeats 800000 in
theorem slices_Clone (v : Value) (l : List UInt8) (w : World) (hv : Bs w v l) (hl : l.length ≤ 1073741824) :
    Calls Tryz.prog 46 #[v] w fun e w' => ∃ v', e = .returned v' ∧ Bs w' v' l ∧ Own8 w' w.heap.size 5 v' l ∧ Below w.heap.size w w' := by
  obtain ⟨i0, hi, hz0, hz1, hz2⟩ := info_parts info_u8
  rcases hv.cases with ⟨rfl, rfl⟩ | ⟨g, o, c, rfl, hc, hm, hr⟩
  · have hen := fun W => Lib.run_eql_slice_nil (P := Tryz.prog) W 22 5 none 0 0 0 0 Tryz.underlying22
    go_enter Tryz.func46, Tryz.ntmps46
    go_wp2_with fail
    go_ret
    exact ⟨_, rfl, Bs.nil _, Own8.nil _ _ _, Below.refl _ _⟩
  · have hen := fun W => Lib.run_eql_slice_nil (P := Tryz.prog) W 22 5 (some ⟨g, o, none⟩) l.length c 0 0 Tryz.underlying22
    go_enter Tryz.func46, Tryz.ntmps46
    have hpos := hv
    have ho : Own8 (w.alloc (.cells #[] 5)) w.heap.size 5 (.slice (some ⟨w.heap.size, 0, none⟩) 0 0) [] := own8_mk (Nat.le_refl _) (Blk.new _ _ _) rfl (Nat.le_refl _) (Nat.zero_le _) rfl (fun i u h => by simp at h)
    have hb : Below w.heap.size w (w.alloc (.cells #[] 5)) := (Below.refl _ w).alloc (Nat.le_refl _) _
    have hv1 := hv.keep hb
    clear hr hv hpos
    go_wp2_with (at_builtin; refine wpList_append8 Tryz.underlying22 hi hz0 hz1 hz2 rfl _ _ rfl w.heap.size rfl rfl ho hv1 (by simp; omega) (by simp) ?_; intro v' w1 ho' hg _)
    have hb1 := hb.grown hg (by simp) (fun k hk => by cases hk; exact Nat.le_refl _)
    obtain ⟨a', c', rfl⟩ := ho'.form
    go_wp2_with fail
    go_ret
    exact ⟨_, rfl, ho'.bs, ho', hb1⟩

set_option maxRecDepth 100000 in
set_option maxHeartbeats 800000 in
theorem bytes_Equal (v x : Value) (l m : List UInt8) (w : World) (hv : Bs w v l) (hx : Bs w x m) :
    Calls Tryz.prog 104 #[v, x] w fun e w' => e = .returned (.bool (l == m)) ∧ w = w' := by
  have h1 := run_bytes_string (P := Tryz.prog) Tryz.underlying22 Tryz.underlying5 Tryz.underlying9 hv
  have h2 := run_bytes_string (P := Tryz.prog) Tryz.underlying22 Tryz.underlying5 Tryz.underlying9 hx
  have hbq := bytes_beq l m
  obtain ⟨a, c, rfl⟩ := hv.form
  obtain ⟨a', c', rfl⟩ := hx.form
  clear hv hx
  generalize (⟨l.toArray⟩ : ByteArray) = s1 at *
  generalize (⟨m.toArray⟩ : ByteArray) = s2 at *
  go_enter Tryz.func104, Tryz.ntmps104
  go_wp2_with fail
  go_ret
  exact ⟨by rw [← hbq]; rfl, rfl⟩

end Go.Proofs.YtnbeagcmfcdklaaGreat
