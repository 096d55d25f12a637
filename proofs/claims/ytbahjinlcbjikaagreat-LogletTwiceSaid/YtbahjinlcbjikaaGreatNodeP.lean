import Derived.Test.YtbahjinlcbjikaaGreatMNodeR
import Derived.Test.YtbahjinlcbjikaaGreatMEntry
/-! Package node: PutRequest, PutReply. -/
namespace Go.Proofs.YtbahjinlcbjikaaGreat
open Go.RowKit

def reqB (k lo po : Int) (l : List UInt8) : List UInt8 := lowB k 1 ++ (lowB lo 6 ++ (lowB po 2 ++ l))
def repB (er tl sl : Int) (l : List UInt8) : List UInt8 := lowB er 1 ++ (lowB tl 2 ++ (lowB sl 1 ++ l))

set_option maxRecDepth 100000 in
set_option maxHeartbeats 1600000 in
theorem put_request (k lo po : Int) (v : Value) (l : List UInt8) (W : World) (hv : Bs W v l) (hr : rightB k lo po l.length = true) :
    Calls Tryz.prog 44 #[.agg #[.int .i64 k, .int .i64 lo, .int .i64 po, v]] W fun e w' => ∃ v', e = .returned (.tuple #[v', .int .i64 0]) ∧ Own8 w' W.heap.size 5 v' (frameB 1 (reqB k lo po l)) ∧ Below W.heap.size W w' := by
  obtain ⟨a0, c0, rfl⟩ := hv.form
  have hrr := of_decide_eq_true hr
  obtain ⟨hk0, hk1, hl0, hl1, hp0, hp1, hn, _⟩ := hrr
  have hk0 : 0 ≤ k := by omega
  have hk1 : k < 256 := by omega
  have hp1 : po < 65536 := by omega
  have HL := hid (show (reqB k lo po l).length ≤ 65536 by simp [reqB, lowB_length]; omega)
  have b1 : Below W.heap.size W (W.alloc (.cells #[.int .i64 k, .int .i64 lo, .int .i64 po, .slice a0 l.length c0] 55)) := (Below.refl _ W).alloc (Nat.le_refl _) _
  have B1 := Blk.new W #[.int .i64 k, .int .i64 lo, .int .i64 po, .slice a0 l.length c0] 55
  have hv1 := hv.keep b1
  have hrt := request_right k lo po a0 l.length c0 (W.alloc (.cells #[.int .i64 k, .int .i64 lo, .int .i64 po, .slice a0 l.length c0] 55)) (by omega)
  rw [hr] at hrt
  have HR := hid hrt
  clear hv hrt hr
  go_enter Tryz.func44, Tryz.ntmps44
  go_wp2_with fail
  refine HR.out.mono ?_
  rintro e W2 ⟨rfl, b2⟩
  have B1 := B1.keep b2
  have HV := hid (hv1.keep b2)
  have HBW := hid (b1.trans (b2.mono b1.size))
  clear HR hv1 b1 b2
  go_wp2_with fail
  refine wp_region_inv rfl Grows (fun i v x => match i with
      | 0 => v = .pointer (some ⟨W.heap.size, 0, none⟩)
      | 1 => v = .int .i64 k
      | 2 => Own8 x W.heap.size 5 v (lowB k 1)
      | 3 => v = .pointer (some ⟨W.heap.size, 1, none⟩)
      | 4 => v = .int .i64 lo
      | 5 => Own8 x W.heap.size 5 v (lowB lo 6)
      | 6 => v = .pointer (some ⟨W.heap.size, 2, none⟩)
      | 7 => v = .int .i64 po
      | 8 => Own8 x W.heap.size 5 v (lowB po 2)
      | 9 => v = .pointer (some ⟨W.heap.size, 3, none⟩)
      | 10 => v = .slice a0 l.length c0
      | 11 => ∃ g vs, v = .slice (some ⟨g, 0, none⟩) 4 4 ∧ 4 = vs.length ∧ Parts x g vs [lowB k 1, lowB lo 6, lowB po 2, l]
      | 12 => Own8 x W.heap.size 5 v (reqB k lo po l)
      | 13 => ∃ v', v = .tuple #[v', .int .i64 0] ∧ Own8 x W.heap.size 5 v' (frameB 1 (reqB k lo po l))
      | 14 => Own8 x W.heap.size 5 v (frameB 1 (reqB k lo po l))
      | 15 => v = .int .i64 0
      | 16 => Own8 x W.heap.size 5 v (frameB 1 (reqB k lo po l))
      | 17 => v = .int .i64 0
      | _ => True) (by kernel_rfl) (Grows.refl _) Grows.trans ?rstab ?rsteps ?rfin
  case rstab =>
    intro i v x y hg h
    match i with
    | 0 | 1 | 3 | 4 | 6 | 7 | 9 | 10 | 15 | 17 => exact h
    | 2 => exact Own8.keep h hg
    | 5 => exact Own8.keep h hg
    | 8 => exact Own8.keep h hg
    | 11 => exact (by obtain ⟨g, vs, e, h4, hb⟩ := h; exact ⟨g, vs, e, h4, hb.keep hg⟩)
    | 12 => exact Own8.keep h hg
    | 13 => exact (by obtain ⟨v9, e9, h9⟩ := h; exact ⟨v9, e9, h9.keep hg⟩)
    | 14 => exact Own8.keep h hg
    | 16 => exact Own8.keep h hg
    | n + 18 => trivial
  case rsteps =>
    refine ⟨?_, ?_, ?_, ?_, ?_, ?_, ?_, ?_, ?_, ?_, ?_, ?_, ?_, ?_, ?_, ?_, ?_, ?_, trivial⟩
    · intro a x hA
      have t1 := hA.at_ 1 (by rfl) rfl
      refine step_value (w' := x) (v := .pointer (some ⟨W.heap.size, 0, none⟩)) ?_ (Grows.refl _) ?_
      · go_simp
      · rfl
    · intro a x hA
      have t7 : a.tmps[7]?.getD undef = .pointer (some ⟨W.heap.size, 0, none⟩) := hA.dep_ ⟨0, .data⟩ (by simp) _ 7 rfl rfl
      have hBx := B1.keep hA.grown
      have hc0 := hBx.cell (o := 0) rfl
      have hc1 := hBx.cell (o := 1) rfl
      have hc2 := hBx.cell (o := 2) rfl
      have hc3 := hBx.cell (o := 3) rfl
      clear hBx
      refine step_value (w' := x) (v := .int .i64 k) ?_ (Grows.refl _) ?_
      · go_simp
      · rfl
    · intro a x hA
      have t8 : a.tmps[8]?.getD undef = .int .i64 k := hA.dep_ ⟨1, .data⟩ (by simp) _ 8 rfl rfl
      have hs := Nat.le_trans HBW.out.size hA.grow.size
      refine step_call (f := 74) (args := #[.int .i64 k, .int .i64 1]) (by go_simp) ((node_low _ _ x hk0 (by omega) (by omega) (by simpa using hk1)).mono ?_)
      rintro e w' ⟨v, rfl, ho, hb⟩
      exact ⟨v, rfl, hb, ho.mono hs⟩
    · intro a x hA
      have t1 := hA.at_ 1 (by rfl) rfl
      refine step_value (w' := x) (v := .pointer (some ⟨W.heap.size, 1, none⟩)) ?_ (Grows.refl _) ?_
      · go_simp
      · rfl
    · intro a x hA
      have t10 : a.tmps[10]?.getD undef = .pointer (some ⟨W.heap.size, 1, none⟩) := hA.dep_ ⟨3, .data⟩ (by simp) _ 10 rfl rfl
      have hBx := B1.keep hA.grown
      have hc0 := hBx.cell (o := 0) rfl
      have hc1 := hBx.cell (o := 1) rfl
      have hc2 := hBx.cell (o := 2) rfl
      have hc3 := hBx.cell (o := 3) rfl
      clear hBx
      refine step_value (w' := x) (v := .int .i64 lo) ?_ (Grows.refl _) ?_
      · go_simp
      · rfl
    · intro a x hA
      have t11 : a.tmps[11]?.getD undef = .int .i64 lo := hA.dep_ ⟨4, .data⟩ (by simp) _ 11 rfl rfl
      have hs := Nat.le_trans HBW.out.size hA.grow.size
      refine step_call (f := 74) (args := #[.int .i64 lo, .int .i64 6]) (by go_simp) ((node_low _ _ x hl0 (by omega) (by omega) (by simpa using hl1)).mono ?_)
      rintro e w' ⟨v, rfl, ho, hb⟩
      exact ⟨v, rfl, hb, ho.mono hs⟩
    · intro a x hA
      have t1 := hA.at_ 1 (by rfl) rfl
      refine step_value (w' := x) (v := .pointer (some ⟨W.heap.size, 2, none⟩)) ?_ (Grows.refl _) ?_
      · go_simp
      · rfl
    · intro a x hA
      have t13 : a.tmps[13]?.getD undef = .pointer (some ⟨W.heap.size, 2, none⟩) := hA.dep_ ⟨6, .data⟩ (by simp) _ 13 rfl rfl
      have hBx := B1.keep hA.grown
      have hc0 := hBx.cell (o := 0) rfl
      have hc1 := hBx.cell (o := 1) rfl
      have hc2 := hBx.cell (o := 2) rfl
      have hc3 := hBx.cell (o := 3) rfl
      clear hBx
      refine step_value (w' := x) (v := .int .i64 po) ?_ (Grows.refl _) ?_
      · go_simp
      · rfl
    · intro a x hA
      have t14 : a.tmps[14]?.getD undef = .int .i64 po := hA.dep_ ⟨7, .data⟩ (by simp) _ 14 rfl rfl
      have hs := Nat.le_trans HBW.out.size hA.grow.size
      refine step_call (f := 74) (args := #[.int .i64 po, .int .i64 2]) (by go_simp) ((node_low _ _ x hp0 (by omega) (by omega) (by simpa using hp1)).mono ?_)
      rintro e w' ⟨v, rfl, ho, hb⟩
      exact ⟨v, rfl, hb, ho.mono hs⟩
    · intro a x hA
      have t1 := hA.at_ 1 (by rfl) rfl
      refine step_value (w' := x) (v := .pointer (some ⟨W.heap.size, 3, none⟩)) ?_ (Grows.refl _) ?_
      · go_simp
      · rfl
    · intro a x hA
      have t16 : a.tmps[16]?.getD undef = .pointer (some ⟨W.heap.size, 3, none⟩) := hA.dep_ ⟨9, .data⟩ (by simp) _ 16 rfl rfl
      have hBx := B1.keep hA.grown
      have hc0 := hBx.cell (o := 0) rfl
      have hc1 := hBx.cell (o := 1) rfl
      have hc2 := hBx.cell (o := 2) rfl
      have hc3 := hBx.cell (o := 3) rfl
      clear hBx
      refine step_value (w' := x) (v := .slice a0 l.length c0) ?_ (Grows.refl _) ?_
      · go_simp
      · rfl
    · intro a x hA
      have t9 : Own8 x W.heap.size 5 (a.tmps[9]?.getD undef) (lowB k 1) := hA.dep_ ⟨2, .data⟩ (by simp) _ 9 rfl rfl
      have t12 : Own8 x W.heap.size 5 (a.tmps[12]?.getD undef) (lowB lo 6) := hA.dep_ ⟨5, .data⟩ (by simp) _ 12 rfl rfl
      have t15 : Own8 x W.heap.size 5 (a.tmps[15]?.getD undef) (lowB po 2) := hA.dep_ ⟨8, .data⟩ (by simp) _ 15 rfl rfl
      have t17 : a.tmps[17]?.getD undef = .slice a0 l.length c0 := hA.dep_ ⟨10, .data⟩ (by simp) _ 17 rfl rfl
      obtain ⟨a9, c9, e9⟩ := t9.form
      obtain ⟨a12, c12, e12⟩ := t12.form
      obtain ⟨a15, c15, e15⟩ := t15.form
      rw [e9] at t9
      rw [e12] at t12
      rw [e15] at t15
      have hl := HV.out.keep hA.grown
      have hgr := Grows.alloc x (.cells #[.slice a9 (lowB k 1).length c9, .slice a12 (lowB lo 6).length c12, .slice a15 (lowB po 2).length c15, .slice a0 l.length c0] 35)
      refine step_value (w' := x.alloc (.cells #[.slice a9 (lowB k 1).length c9, .slice a12 (lowB lo 6).length c12, .slice a15 (lowB po 2).length c15, .slice a0 l.length c0] 35)) (v := .slice (some ⟨x.heap.size, 0, none⟩) 4 4) ?_ hgr ?_
      · clear t9 t12 t15 hl
        go_simp
      · exact ⟨_, _, rfl, rfl, Parts.four (Blk.new _ _ _) (t9.bs.keep hgr) (t12.bs.keep hgr) (t15.bs.keep hgr) (hl.keep hgr)⟩
    · intro a x hA
      have t18 : ∃ g vs, (a.tmps[18]?.getD undef) = .slice (some ⟨g, 0, none⟩) 4 4 ∧ 4 = vs.length ∧ Parts x g vs [lowB k 1, lowB lo 6, lowB po 2, l] := hA.dep_ ⟨11, .data⟩ (by simp) _ 18 rfl rfl
      obtain ⟨g, vs, ev, h4, hp⟩ := t18
      have hF : ([lowB k 1, lowB lo 6, lowB po 2, l] : List (List UInt8)).flatten = reqB k lo po l := by simp [reqB]
      have hFl := HL.out
      have hs := Nat.le_trans HBW.out.size hA.grow.size
      refine step_call (f := 73) (args := #[.slice (some ⟨g, 0, none⟩) 4 4]) (by clear hp; go_simp) ((slices_Concat _ _ _ _ _ x h4 hp (by omega) (by rw [hF]; omega)).mono ?_)
      rw [hF]
      rintro e w' ⟨v, rfl, ho, hb⟩
      exact ⟨v, rfl, hb, ho.mono hs⟩
    · intro a x hA
      have t19 : Own8 x W.heap.size 5 (a.tmps[19]?.getD undef) (reqB k lo po l) := hA.dep_ ⟨12, .data⟩ (by simp) _ 19 rfl rfl
      have hFl := HL.out
      have hs := Nat.le_trans HBW.out.size hA.grow.size
      have hbs := t19.bs
      refine step_call (f := 72) (args := #[.int .i64 1, a.tmps[19]?.getD undef]) (by go_simp) ((wire_Frame 1 _ _ x (by omega) (by omega) hbs (by omega)).mono ?_)
      rintro e w' ⟨v, rfl, ho, hb⟩
      exact ⟨_, rfl, hb, v, rfl, ho.mono hs⟩
    · intro a x hA
      have t20 : ∃ v', (a.tmps[20]?.getD undef) = .tuple #[v', .int .i64 0] ∧ Own8 x W.heap.size 5 v' (frameB 1 (reqB k lo po l)) := hA.dep_ ⟨13, .data⟩ (by simp) _ 20 rfl rfl
      obtain ⟨v9, e9, h9⟩ := t20
      exact step_value (w' := x) (v := v9) (by go_simp) (Grows.refl _) h9
    · intro a x hA
      have t20 : ∃ v', (a.tmps[20]?.getD undef) = .tuple #[v', .int .i64 0] ∧ Own8 x W.heap.size 5 v' (frameB 1 (reqB k lo po l)) := hA.dep_ ⟨13, .data⟩ (by simp) _ 20 rfl rfl
      have hBx := B1.keep hA.grown
      have hc0 := hBx.cell (o := 0) rfl
      have hc1 := hBx.cell (o := 1) rfl
      have hc2 := hBx.cell (o := 2) rfl
      have hc3 := hBx.cell (o := 3) rfl
      clear hBx
      obtain ⟨v9, e9, h9⟩ := t20
      refine step_value (w' := x) (v := .int .i64 0) ?_ (Grows.refl _) rfl
      clear h9
      go_simp
    · intro a x hA
      have t21 : Own8 x W.heap.size 5 (a.tmps[21]?.getD undef) (frameB 1 (reqB k lo po l)) := hA.dep_ ⟨14, .data⟩ (by simp) _ 21 rfl rfl
      exact step_value (w' := x) (v := a.tmps[21]?.getD undef) (by go_simp) (Grows.refl _) t21
    · intro a x hA
      have t22 : a.tmps[22]?.getD undef = .int .i64 0 := hA.dep_ ⟨15, .data⟩ (by simp) _ 22 rfl rfl
      refine step_value (w' := x) (v := .int .i64 0) ?_ (Grows.refl _) ?_
      · go_simp
      · rfl
  case rfin =>
    intro y W' hg hV
    simp only [AllVals] at hV
    obtain ⟨_, _, _, _, _, _, _, _, _, _, _, _, _, _, _, _, hA9, hB9, _⟩ := hV
    have hbW := HBW.out.trans (Below.mono (Below.trans (below_of_drewN _ _ 1) hg) HBW.out.size)
    clear hg
    simp only [putAll, Act.put, List.setIfInBounds_toArray, List.set_cons_zero, List.set_cons_succ]
    rw [hB9]
    clear hB9
    go_wp2_with fail
    go_ret2
    exact ⟨_, rfl, hA9, hbW⟩

set_option maxRecDepth 100000 in
set_option maxHeartbeats 1600000 in
theorem put_request_no (k lo po : Int) (a0 : Option Addr) (n c0 : Nat) (W : World) (hn : n ≤ 9223372036854775807) (hr : rightB k lo po n = false) :
    Calls Tryz.prog 44 #[.agg #[.int .i64 k, .int .i64 lo, .int .i64 po, .slice a0 n c0]] W fun e w' => e = .returned (.tuple #[.slice none 0 0, .int .i64 1]) ∧ Below W.heap.size W w' := by
  have b1 : Below W.heap.size W (W.alloc (.cells #[.int .i64 k, .int .i64 lo, .int .i64 po, .slice a0 n c0] 55)) := (Below.refl _ W).alloc (Nat.le_refl _) _
  have hrt := request_right k lo po a0 n c0 (W.alloc (.cells #[.int .i64 k, .int .i64 lo, .int .i64 po, .slice a0 n c0] 55)) hn
  rw [hr] at hrt
  have HR := hid hrt
  clear hrt hr
  go_enter Tryz.func44, Tryz.ntmps44
  go_wp2_with fail
  refine HR.out.mono ?_
  rintro e W2 ⟨rfl, b2⟩
  go_wp2_with fail
  go_ret2
  exact ⟨rfl, b1.trans (b2.mono b1.size)⟩

set_option maxRecDepth 100000 in
set_option maxHeartbeats 1600000 in
theorem put_reply_true (er tl : Int) (v : Value) (l : List UInt8) (W : World) (hv : Bs W v l) (hr : tellsB er tl l.length = true) :
    Calls Tryz.prog 86 #[.agg #[.int .i64 er, .int .i64 tl, .bool true, v]] W fun e w' => ∃ v', e = .returned (.tuple #[v', .int .i64 0]) ∧ Own8 w' W.heap.size 5 v' (frameB 2 (repB er tl 1 l)) ∧ Below W.heap.size W w' := by
  obtain ⟨a0, c0, rfl⟩ := hv.form
  have hrr := of_decide_eq_true hr
  obtain ⟨hk0, hk1, hl0, hl1, hn⟩ := hrr
  have hk1 : er < 256 := by omega
  have hl1 : tl < 65536 := by omega
  have HL := hid (show (repB er tl 1 l).length ≤ 65536 by simp [repB, lowB_length]; omega)
  have b1 : Below W.heap.size W (W.alloc (.cells #[.int .i64 er, .int .i64 tl, .bool true, .slice a0 l.length c0] 51)) := (Below.refl _ W).alloc (Nat.le_refl _) _
  have B1 := Blk.new W #[.int .i64 er, .int .i64 tl, .bool true, .slice a0 l.length c0] 51
  have hv1 := hv.keep b1
  have hrt := reply_right er tl true a0 l.length c0 (W.alloc (.cells #[.int .i64 er, .int .i64 tl, .bool true, .slice a0 l.length c0] 51)) (by omega)
  rw [hr] at hrt
  have HR := hid hrt
  clear hv hrt hr
  go_enter Tryz.func86, Tryz.ntmps86
  go_wp2_with fail
  refine HR.out.mono ?_
  rintro e W2 ⟨rfl, b2⟩
  have B1 := B1.keep b2
  have c2 := B1.cell (o := 2) rfl
  have HV := hid (hv1.keep b2)
  have HBW := hid (b1.trans (b2.mono b1.size))
  clear HR hv1 b1 b2
  go_wp2_with fail
  clear c2
  refine wp_region_inv rfl Grows (fun i v x => match i with
      | 0 => v = .pointer (some ⟨W.heap.size, 0, none⟩)
      | 1 => v = .int .i64 er
      | 2 => Own8 x W.heap.size 5 v (lowB er 1)
      | 3 => v = .pointer (some ⟨W.heap.size, 1, none⟩)
      | 4 => v = .int .i64 tl
      | 5 => Own8 x W.heap.size 5 v (lowB tl 2)
      | 6 => v = .int .i64 1
      | 7 => Own8 x W.heap.size 5 v (lowB 1 1)
      | 8 => v = .pointer (some ⟨W.heap.size, 3, none⟩)
      | 9 => v = .slice a0 l.length c0
      | 10 => ∃ g vs, v = .slice (some ⟨g, 0, none⟩) 4 4 ∧ 4 = vs.length ∧ Parts x g vs [lowB er 1, lowB tl 2, lowB 1 1, l]
      | 11 => Own8 x W.heap.size 5 v (repB er tl 1 l)
      | 12 => ∃ v', v = .tuple #[v', .int .i64 0] ∧ Own8 x W.heap.size 5 v' (frameB 2 (repB er tl 1 l))
      | 13 => Own8 x W.heap.size 5 v (frameB 2 (repB er tl 1 l))
      | 14 => v = .int .i64 0
      | 15 => Own8 x W.heap.size 5 v (frameB 2 (repB er tl 1 l))
      | 16 => v = .int .i64 0
      | _ => True) (by kernel_rfl) (Grows.refl _) Grows.trans ?rstab ?rsteps ?rfin
  case rstab =>
    intro i v x y hg h
    match i with
    | 0 | 1 | 3 | 4 | 6 | 8 | 9 | 14 | 16 => exact h
    | 2 => exact Own8.keep h hg
    | 5 => exact Own8.keep h hg
    | 7 => exact Own8.keep h hg
    | 10 => exact (by obtain ⟨g, vs, e, h4, hb⟩ := h; exact ⟨g, vs, e, h4, hb.keep hg⟩)
    | 11 => exact Own8.keep h hg
    | 12 => exact (by obtain ⟨v9, e9, h9⟩ := h; exact ⟨v9, e9, h9.keep hg⟩)
    | 13 => exact Own8.keep h hg
    | 15 => exact Own8.keep h hg
    | n + 17 => trivial
  case rsteps =>
    refine ⟨?_, ?_, ?_, ?_, ?_, ?_, ?_, ?_, ?_, ?_, ?_, ?_, ?_, ?_, ?_, ?_, ?_, trivial⟩
    · intro a x hA
      have t1 := hA.at_ 1 (by rfl) rfl
      refine step_value (w' := x) (v := .pointer (some ⟨W.heap.size, 0, none⟩)) ?_ (Grows.refl _) ?_
      · go_simp
      · rfl
    · intro a x hA
      have t10 : a.tmps[10]?.getD undef = .pointer (some ⟨W.heap.size, 0, none⟩) := hA.dep_ ⟨0, .data⟩ (by simp) _ 10 rfl rfl
      have hBx := B1.keep hA.grown
      have hc0 := hBx.cell (o := 0) rfl
      have hc1 := hBx.cell (o := 1) rfl
      have hc2 := hBx.cell (o := 2) rfl
      have hc3 := hBx.cell (o := 3) rfl
      clear hBx
      refine step_value (w' := x) (v := .int .i64 er) ?_ (Grows.refl _) ?_
      · go_simp
      · rfl
    · intro a x hA
      have t11 : a.tmps[11]?.getD undef = .int .i64 er := hA.dep_ ⟨1, .data⟩ (by simp) _ 11 rfl rfl
      have hs := Nat.le_trans HBW.out.size hA.grow.size
      refine step_call (f := 74) (args := #[.int .i64 er, .int .i64 1]) (by go_simp) ((node_low _ _ x hk0 (by omega) (by omega) (by simpa using hk1)).mono ?_)
      rintro e w' ⟨v, rfl, ho, hb⟩
      exact ⟨v, rfl, hb, ho.mono hs⟩
    · intro a x hA
      have t1 := hA.at_ 1 (by rfl) rfl
      refine step_value (w' := x) (v := .pointer (some ⟨W.heap.size, 1, none⟩)) ?_ (Grows.refl _) ?_
      · go_simp
      · rfl
    · intro a x hA
      have t13 : a.tmps[13]?.getD undef = .pointer (some ⟨W.heap.size, 1, none⟩) := hA.dep_ ⟨3, .data⟩ (by simp) _ 13 rfl rfl
      have hBx := B1.keep hA.grown
      have hc0 := hBx.cell (o := 0) rfl
      have hc1 := hBx.cell (o := 1) rfl
      have hc2 := hBx.cell (o := 2) rfl
      have hc3 := hBx.cell (o := 3) rfl
      clear hBx
      refine step_value (w' := x) (v := .int .i64 tl) ?_ (Grows.refl _) ?_
      · go_simp
      · rfl
    · intro a x hA
      have t14 : a.tmps[14]?.getD undef = .int .i64 tl := hA.dep_ ⟨4, .data⟩ (by simp) _ 14 rfl rfl
      have hs := Nat.le_trans HBW.out.size hA.grow.size
      refine step_call (f := 74) (args := #[.int .i64 tl, .int .i64 2]) (by go_simp) ((node_low _ _ x hl0 (by omega) (by omega) (by simpa using hl1)).mono ?_)
      rintro e w' ⟨v, rfl, ho, hb⟩
      exact ⟨v, rfl, hb, ho.mono hs⟩
    · intro a x hA
      have t4 := hA.at_ 4 (by rfl) rfl
      refine step_value (w' := x) (v := .int .i64 1) ?_ (Grows.refl _) ?_
      · go_simp
      · rfl
    · intro a x hA
      have t16 : a.tmps[16]?.getD undef = .int .i64 1 := hA.dep_ ⟨6, .data⟩ (by simp) _ 16 rfl rfl
      have hs := Nat.le_trans HBW.out.size hA.grow.size
      refine step_call (f := 74) (args := #[.int .i64 1, .int .i64 1]) (by go_simp) ((node_low _ _ x (by omega) (by omega) (by omega) (by decide)).mono ?_)
      rintro e w' ⟨v, rfl, ho, hb⟩
      exact ⟨v, rfl, hb, ho.mono hs⟩
    · intro a x hA
      have t1 := hA.at_ 1 (by rfl) rfl
      refine step_value (w' := x) (v := .pointer (some ⟨W.heap.size, 3, none⟩)) ?_ (Grows.refl _) ?_
      · go_simp
      · rfl
    · intro a x hA
      have t18 : a.tmps[18]?.getD undef = .pointer (some ⟨W.heap.size, 3, none⟩) := hA.dep_ ⟨8, .data⟩ (by simp) _ 18 rfl rfl
      have hBx := B1.keep hA.grown
      have hc0 := hBx.cell (o := 0) rfl
      have hc1 := hBx.cell (o := 1) rfl
      have hc2 := hBx.cell (o := 2) rfl
      have hc3 := hBx.cell (o := 3) rfl
      clear hBx
      refine step_value (w' := x) (v := .slice a0 l.length c0) ?_ (Grows.refl _) ?_
      · go_simp
      · rfl
    · intro a x hA
      have t12 : Own8 x W.heap.size 5 (a.tmps[12]?.getD undef) (lowB er 1) := hA.dep_ ⟨2, .data⟩ (by simp) _ 12 rfl rfl
      have t15 : Own8 x W.heap.size 5 (a.tmps[15]?.getD undef) (lowB tl 2) := hA.dep_ ⟨5, .data⟩ (by simp) _ 15 rfl rfl
      have t17 : Own8 x W.heap.size 5 (a.tmps[17]?.getD undef) (lowB 1 1) := hA.dep_ ⟨7, .data⟩ (by simp) _ 17 rfl rfl
      have t19 : a.tmps[19]?.getD undef = .slice a0 l.length c0 := hA.dep_ ⟨9, .data⟩ (by simp) _ 19 rfl rfl
      obtain ⟨a9, c9, e9⟩ := t12.form
      obtain ⟨a12, c12, e12⟩ := t15.form
      obtain ⟨a15, c15, e15⟩ := t17.form
      rw [e9] at t12
      rw [e12] at t15
      rw [e15] at t17
      have hl := HV.out.keep hA.grown
      have hgr := Grows.alloc x (.cells #[.slice a9 (lowB er 1).length c9, .slice a12 (lowB tl 2).length c12, .slice a15 (lowB 1 1).length c15, .slice a0 l.length c0] 35)
      refine step_value (w' := x.alloc (.cells #[.slice a9 (lowB er 1).length c9, .slice a12 (lowB tl 2).length c12, .slice a15 (lowB 1 1).length c15, .slice a0 l.length c0] 35)) (v := .slice (some ⟨x.heap.size, 0, none⟩) 4 4) ?_ hgr ?_
      · clear t12 t15 t17 hl
        go_simp
      · exact ⟨_, _, rfl, rfl, Parts.four (Blk.new _ _ _) (t12.bs.keep hgr) (t15.bs.keep hgr) (t17.bs.keep hgr) (hl.keep hgr)⟩
    · intro a x hA
      have t20 : ∃ g vs, (a.tmps[20]?.getD undef) = .slice (some ⟨g, 0, none⟩) 4 4 ∧ 4 = vs.length ∧ Parts x g vs [lowB er 1, lowB tl 2, lowB 1 1, l] := hA.dep_ ⟨10, .data⟩ (by simp) _ 20 rfl rfl
      obtain ⟨g, vs, ev, h4, hp⟩ := t20
      have hF : ([lowB er 1, lowB tl 2, lowB 1 1, l] : List (List UInt8)).flatten = repB er tl 1 l := by simp [repB]
      have hFl := HL.out
      have hs := Nat.le_trans HBW.out.size hA.grow.size
      refine step_call (f := 73) (args := #[.slice (some ⟨g, 0, none⟩) 4 4]) (by clear hp; go_simp) ((slices_Concat _ _ _ _ _ x h4 hp (by omega) (by rw [hF]; omega)).mono ?_)
      rw [hF]
      rintro e w' ⟨v, rfl, ho, hb⟩
      exact ⟨v, rfl, hb, ho.mono hs⟩
    · intro a x hA
      have t21 : Own8 x W.heap.size 5 (a.tmps[21]?.getD undef) (repB er tl 1 l) := hA.dep_ ⟨11, .data⟩ (by simp) _ 21 rfl rfl
      have hFl := HL.out
      have hs := Nat.le_trans HBW.out.size hA.grow.size
      have hbs := t21.bs
      refine step_call (f := 72) (args := #[.int .i64 2, a.tmps[21]?.getD undef]) (by go_simp) ((wire_Frame 2 _ _ x (by omega) (by omega) hbs (by omega)).mono ?_)
      rintro e w' ⟨v, rfl, ho, hb⟩
      exact ⟨_, rfl, hb, v, rfl, ho.mono hs⟩
    · intro a x hA
      have t22 : ∃ v', (a.tmps[22]?.getD undef) = .tuple #[v', .int .i64 0] ∧ Own8 x W.heap.size 5 v' (frameB 2 (repB er tl 1 l)) := hA.dep_ ⟨12, .data⟩ (by simp) _ 22 rfl rfl
      obtain ⟨v9, e9, h9⟩ := t22
      exact step_value (w' := x) (v := v9) (by go_simp) (Grows.refl _) h9
    · intro a x hA
      have t22 : ∃ v', (a.tmps[22]?.getD undef) = .tuple #[v', .int .i64 0] ∧ Own8 x W.heap.size 5 v' (frameB 2 (repB er tl 1 l)) := hA.dep_ ⟨12, .data⟩ (by simp) _ 22 rfl rfl
      have hBx := B1.keep hA.grown
      have hc0 := hBx.cell (o := 0) rfl
      have hc1 := hBx.cell (o := 1) rfl
      have hc2 := hBx.cell (o := 2) rfl
      have hc3 := hBx.cell (o := 3) rfl
      clear hBx
      obtain ⟨v9, e9, h9⟩ := t22
      refine step_value (w' := x) (v := .int .i64 0) ?_ (Grows.refl _) rfl
      clear h9
      go_simp
    · intro a x hA
      have t23 : Own8 x W.heap.size 5 (a.tmps[23]?.getD undef) (frameB 2 (repB er tl 1 l)) := hA.dep_ ⟨13, .data⟩ (by simp) _ 23 rfl rfl
      exact step_value (w' := x) (v := a.tmps[23]?.getD undef) (by go_simp) (Grows.refl _) t23
    · intro a x hA
      have t24 : a.tmps[24]?.getD undef = .int .i64 0 := hA.dep_ ⟨14, .data⟩ (by simp) _ 24 rfl rfl
      refine step_value (w' := x) (v := .int .i64 0) ?_ (Grows.refl _) ?_
      · go_simp
      · rfl
  case rfin =>
    intro y W' hg hV
    simp only [AllVals] at hV
    obtain ⟨_, _, _, _, _, _, _, _, _, _, _, _, _, _, _, hA9, hB9, _⟩ := hV
    have hbW := HBW.out.trans (Below.mono (Below.trans (below_of_drewN _ _ 1) hg) HBW.out.size)
    clear hg
    simp only [putAll, Act.put, List.setIfInBounds_toArray, List.set_cons_zero, List.set_cons_succ]
    rw [hB9]
    clear hB9
    go_wp2_with fail
    go_ret2
    exact ⟨_, rfl, hA9, hbW⟩

set_option maxRecDepth 100000 in
set_option maxHeartbeats 1600000 in
theorem put_reply_false (er tl : Int) (v : Value) (l : List UInt8) (W : World) (hv : Bs W v l) (hr : tellsB er tl l.length = true) :
    Calls Tryz.prog 86 #[.agg #[.int .i64 er, .int .i64 tl, .bool false, v]] W fun e w' => ∃ v', e = .returned (.tuple #[v', .int .i64 0]) ∧ Own8 w' W.heap.size 5 v' (frameB 2 (repB er tl 0 l)) ∧ Below W.heap.size W w' := by
  obtain ⟨a0, c0, rfl⟩ := hv.form
  have hrr := of_decide_eq_true hr
  obtain ⟨hk0, hk1, hl0, hl1, hn⟩ := hrr
  have hk1 : er < 256 := by omega
  have hl1 : tl < 65536 := by omega
  have HL := hid (show (repB er tl 0 l).length ≤ 65536 by simp [repB, lowB_length]; omega)
  have b1 : Below W.heap.size W (W.alloc (.cells #[.int .i64 er, .int .i64 tl, .bool false, .slice a0 l.length c0] 51)) := (Below.refl _ W).alloc (Nat.le_refl _) _
  have B1 := Blk.new W #[.int .i64 er, .int .i64 tl, .bool false, .slice a0 l.length c0] 51
  have hv1 := hv.keep b1
  have hrt := reply_right er tl false a0 l.length c0 (W.alloc (.cells #[.int .i64 er, .int .i64 tl, .bool false, .slice a0 l.length c0] 51)) (by omega)
  rw [hr] at hrt
  have HR := hid hrt
  clear hv hrt hr
  go_enter Tryz.func86, Tryz.ntmps86
  go_wp2_with fail
  refine HR.out.mono ?_
  rintro e W2 ⟨rfl, b2⟩
  have B1 := B1.keep b2
  have c2 := B1.cell (o := 2) rfl
  have HV := hid (hv1.keep b2)
  have HBW := hid (b1.trans (b2.mono b1.size))
  clear HR hv1 b1 b2
  go_wp2_with fail
  clear c2
  refine wp_region_inv rfl Grows (fun i v x => match i with
      | 0 => v = .pointer (some ⟨W.heap.size, 0, none⟩)
      | 1 => v = .int .i64 er
      | 2 => Own8 x W.heap.size 5 v (lowB er 1)
      | 3 => v = .pointer (some ⟨W.heap.size, 1, none⟩)
      | 4 => v = .int .i64 tl
      | 5 => Own8 x W.heap.size 5 v (lowB tl 2)
      | 6 => v = .int .i64 0
      | 7 => Own8 x W.heap.size 5 v (lowB 0 1)
      | 8 => v = .pointer (some ⟨W.heap.size, 3, none⟩)
      | 9 => v = .slice a0 l.length c0
      | 10 => ∃ g vs, v = .slice (some ⟨g, 0, none⟩) 4 4 ∧ 4 = vs.length ∧ Parts x g vs [lowB er 1, lowB tl 2, lowB 0 1, l]
      | 11 => Own8 x W.heap.size 5 v (repB er tl 0 l)
      | 12 => ∃ v', v = .tuple #[v', .int .i64 0] ∧ Own8 x W.heap.size 5 v' (frameB 2 (repB er tl 0 l))
      | 13 => Own8 x W.heap.size 5 v (frameB 2 (repB er tl 0 l))
      | 14 => v = .int .i64 0
      | 15 => Own8 x W.heap.size 5 v (frameB 2 (repB er tl 0 l))
      | 16 => v = .int .i64 0
      | _ => True) (by kernel_rfl) (Grows.refl _) Grows.trans ?rstab ?rsteps ?rfin
  case rstab =>
    intro i v x y hg h
    match i with
    | 0 | 1 | 3 | 4 | 6 | 8 | 9 | 14 | 16 => exact h
    | 2 => exact Own8.keep h hg
    | 5 => exact Own8.keep h hg
    | 7 => exact Own8.keep h hg
    | 10 => exact (by obtain ⟨g, vs, e, h4, hb⟩ := h; exact ⟨g, vs, e, h4, hb.keep hg⟩)
    | 11 => exact Own8.keep h hg
    | 12 => exact (by obtain ⟨v9, e9, h9⟩ := h; exact ⟨v9, e9, h9.keep hg⟩)
    | 13 => exact Own8.keep h hg
    | 15 => exact Own8.keep h hg
    | n + 17 => trivial
  case rsteps =>
    refine ⟨?_, ?_, ?_, ?_, ?_, ?_, ?_, ?_, ?_, ?_, ?_, ?_, ?_, ?_, ?_, ?_, ?_, trivial⟩
    · intro a x hA
      have t1 := hA.at_ 1 (by rfl) rfl
      refine step_value (w' := x) (v := .pointer (some ⟨W.heap.size, 0, none⟩)) ?_ (Grows.refl _) ?_
      · go_simp
      · rfl
    · intro a x hA
      have t10 : a.tmps[10]?.getD undef = .pointer (some ⟨W.heap.size, 0, none⟩) := hA.dep_ ⟨0, .data⟩ (by simp) _ 10 rfl rfl
      have hBx := B1.keep hA.grown
      have hc0 := hBx.cell (o := 0) rfl
      have hc1 := hBx.cell (o := 1) rfl
      have hc2 := hBx.cell (o := 2) rfl
      have hc3 := hBx.cell (o := 3) rfl
      clear hBx
      refine step_value (w' := x) (v := .int .i64 er) ?_ (Grows.refl _) ?_
      · go_simp
      · rfl
    · intro a x hA
      have t11 : a.tmps[11]?.getD undef = .int .i64 er := hA.dep_ ⟨1, .data⟩ (by simp) _ 11 rfl rfl
      have hs := Nat.le_trans HBW.out.size hA.grow.size
      refine step_call (f := 74) (args := #[.int .i64 er, .int .i64 1]) (by go_simp) ((node_low _ _ x hk0 (by omega) (by omega) (by simpa using hk1)).mono ?_)
      rintro e w' ⟨v, rfl, ho, hb⟩
      exact ⟨v, rfl, hb, ho.mono hs⟩
    · intro a x hA
      have t1 := hA.at_ 1 (by rfl) rfl
      refine step_value (w' := x) (v := .pointer (some ⟨W.heap.size, 1, none⟩)) ?_ (Grows.refl _) ?_
      · go_simp
      · rfl
    · intro a x hA
      have t13 : a.tmps[13]?.getD undef = .pointer (some ⟨W.heap.size, 1, none⟩) := hA.dep_ ⟨3, .data⟩ (by simp) _ 13 rfl rfl
      have hBx := B1.keep hA.grown
      have hc0 := hBx.cell (o := 0) rfl
      have hc1 := hBx.cell (o := 1) rfl
      have hc2 := hBx.cell (o := 2) rfl
      have hc3 := hBx.cell (o := 3) rfl
      clear hBx
      refine step_value (w' := x) (v := .int .i64 tl) ?_ (Grows.refl _) ?_
      · go_simp
      · rfl
    · intro a x hA
      have t14 : a.tmps[14]?.getD undef = .int .i64 tl := hA.dep_ ⟨4, .data⟩ (by simp) _ 14 rfl rfl
      have hs := Nat.le_trans HBW.out.size hA.grow.size
      refine step_call (f := 74) (args := #[.int .i64 tl, .int .i64 2]) (by go_simp) ((node_low _ _ x hl0 (by omega) (by omega) (by simpa using hl1)).mono ?_)
      rintro e w' ⟨v, rfl, ho, hb⟩
      exact ⟨v, rfl, hb, ho.mono hs⟩
    · intro a x hA
      have t4 := hA.at_ 4 (by rfl) rfl
      refine step_value (w' := x) (v := .int .i64 0) ?_ (Grows.refl _) ?_
      · go_simp
      · rfl
    · intro a x hA
      have t16 : a.tmps[16]?.getD undef = .int .i64 0 := hA.dep_ ⟨6, .data⟩ (by simp) _ 16 rfl rfl
      have hs := Nat.le_trans HBW.out.size hA.grow.size
      refine step_call (f := 74) (args := #[.int .i64 0, .int .i64 1]) (by go_simp) ((node_low _ _ x (by omega) (by omega) (by omega) (by decide)).mono ?_)
      rintro e w' ⟨v, rfl, ho, hb⟩
      exact ⟨v, rfl, hb, ho.mono hs⟩
    · intro a x hA
      have t1 := hA.at_ 1 (by rfl) rfl
      refine step_value (w' := x) (v := .pointer (some ⟨W.heap.size, 3, none⟩)) ?_ (Grows.refl _) ?_
      · go_simp
      · rfl
    · intro a x hA
      have t18 : a.tmps[18]?.getD undef = .pointer (some ⟨W.heap.size, 3, none⟩) := hA.dep_ ⟨8, .data⟩ (by simp) _ 18 rfl rfl
      have hBx := B1.keep hA.grown
      have hc0 := hBx.cell (o := 0) rfl
      have hc1 := hBx.cell (o := 1) rfl
      have hc2 := hBx.cell (o := 2) rfl
      have hc3 := hBx.cell (o := 3) rfl
      clear hBx
      refine step_value (w' := x) (v := .slice a0 l.length c0) ?_ (Grows.refl _) ?_
      · go_simp
      · rfl
    · intro a x hA
      have t12 : Own8 x W.heap.size 5 (a.tmps[12]?.getD undef) (lowB er 1) := hA.dep_ ⟨2, .data⟩ (by simp) _ 12 rfl rfl
      have t15 : Own8 x W.heap.size 5 (a.tmps[15]?.getD undef) (lowB tl 2) := hA.dep_ ⟨5, .data⟩ (by simp) _ 15 rfl rfl
      have t17 : Own8 x W.heap.size 5 (a.tmps[17]?.getD undef) (lowB 0 1) := hA.dep_ ⟨7, .data⟩ (by simp) _ 17 rfl rfl
      have t19 : a.tmps[19]?.getD undef = .slice a0 l.length c0 := hA.dep_ ⟨9, .data⟩ (by simp) _ 19 rfl rfl
      obtain ⟨a9, c9, e9⟩ := t12.form
      obtain ⟨a12, c12, e12⟩ := t15.form
      obtain ⟨a15, c15, e15⟩ := t17.form
      rw [e9] at t12
      rw [e12] at t15
      rw [e15] at t17
      have hl := HV.out.keep hA.grown
      have hgr := Grows.alloc x (.cells #[.slice a9 (lowB er 1).length c9, .slice a12 (lowB tl 2).length c12, .slice a15 (lowB 0 1).length c15, .slice a0 l.length c0] 35)
      refine step_value (w' := x.alloc (.cells #[.slice a9 (lowB er 1).length c9, .slice a12 (lowB tl 2).length c12, .slice a15 (lowB 0 1).length c15, .slice a0 l.length c0] 35)) (v := .slice (some ⟨x.heap.size, 0, none⟩) 4 4) ?_ hgr ?_
      · clear t12 t15 t17 hl
        go_simp
      · exact ⟨_, _, rfl, rfl, Parts.four (Blk.new _ _ _) (t12.bs.keep hgr) (t15.bs.keep hgr) (t17.bs.keep hgr) (hl.keep hgr)⟩
    · intro a x hA
      have t20 : ∃ g vs, (a.tmps[20]?.getD undef) = .slice (some ⟨g, 0, none⟩) 4 4 ∧ 4 = vs.length ∧ Parts x g vs [lowB er 1, lowB tl 2, lowB 0 1, l] := hA.dep_ ⟨10, .data⟩ (by simp) _ 20 rfl rfl
      obtain ⟨g, vs, ev, h4, hp⟩ := t20
      have hF : ([lowB er 1, lowB tl 2, lowB 0 1, l] : List (List UInt8)).flatten = repB er tl 0 l := by simp [repB]
      have hFl := HL.out
      have hs := Nat.le_trans HBW.out.size hA.grow.size
      refine step_call (f := 73) (args := #[.slice (some ⟨g, 0, none⟩) 4 4]) (by clear hp; go_simp) ((slices_Concat _ _ _ _ _ x h4 hp (by omega) (by rw [hF]; omega)).mono ?_)
      rw [hF]
      rintro e w' ⟨v, rfl, ho, hb⟩
      exact ⟨v, rfl, hb, ho.mono hs⟩
    · intro a x hA
      have t21 : Own8 x W.heap.size 5 (a.tmps[21]?.getD undef) (repB er tl 0 l) := hA.dep_ ⟨11, .data⟩ (by simp) _ 21 rfl rfl
      have hFl := HL.out
      have hs := Nat.le_trans HBW.out.size hA.grow.size
      have hbs := t21.bs
      refine step_call (f := 72) (args := #[.int .i64 2, a.tmps[21]?.getD undef]) (by go_simp) ((wire_Frame 2 _ _ x (by omega) (by omega) hbs (by omega)).mono ?_)
      rintro e w' ⟨v, rfl, ho, hb⟩
      exact ⟨_, rfl, hb, v, rfl, ho.mono hs⟩
    · intro a x hA
      have t22 : ∃ v', (a.tmps[22]?.getD undef) = .tuple #[v', .int .i64 0] ∧ Own8 x W.heap.size 5 v' (frameB 2 (repB er tl 0 l)) := hA.dep_ ⟨12, .data⟩ (by simp) _ 22 rfl rfl
      obtain ⟨v9, e9, h9⟩ := t22
      exact step_value (w' := x) (v := v9) (by go_simp) (Grows.refl _) h9
    · intro a x hA
      have t22 : ∃ v', (a.tmps[22]?.getD undef) = .tuple #[v', .int .i64 0] ∧ Own8 x W.heap.size 5 v' (frameB 2 (repB er tl 0 l)) := hA.dep_ ⟨12, .data⟩ (by simp) _ 22 rfl rfl
      have hBx := B1.keep hA.grown
      have hc0 := hBx.cell (o := 0) rfl
      have hc1 := hBx.cell (o := 1) rfl
      have hc2 := hBx.cell (o := 2) rfl
      have hc3 := hBx.cell (o := 3) rfl
      clear hBx
      obtain ⟨v9, e9, h9⟩ := t22
      refine step_value (w' := x) (v := .int .i64 0) ?_ (Grows.refl _) rfl
      clear h9
      go_simp
    · intro a x hA
      have t23 : Own8 x W.heap.size 5 (a.tmps[23]?.getD undef) (frameB 2 (repB er tl 0 l)) := hA.dep_ ⟨13, .data⟩ (by simp) _ 23 rfl rfl
      exact step_value (w' := x) (v := a.tmps[23]?.getD undef) (by go_simp) (Grows.refl _) t23
    · intro a x hA
      have t24 : a.tmps[24]?.getD undef = .int .i64 0 := hA.dep_ ⟨14, .data⟩ (by simp) _ 24 rfl rfl
      refine step_value (w' := x) (v := .int .i64 0) ?_ (Grows.refl _) ?_
      · go_simp
      · rfl
  case rfin =>
    intro y W' hg hV
    simp only [AllVals] at hV
    obtain ⟨_, _, _, _, _, _, _, _, _, _, _, _, _, _, _, hA9, hB9, _⟩ := hV
    have hbW := HBW.out.trans (Below.mono (Below.trans (below_of_drewN _ _ 1) hg) HBW.out.size)
    clear hg
    simp only [putAll, Act.put, List.setIfInBounds_toArray, List.set_cons_zero, List.set_cons_succ]
    rw [hB9]
    clear hB9
    go_wp2_with fail
    go_ret2
    exact ⟨_, rfl, hA9, hbW⟩

set_option maxRecDepth 100000 in
set_option maxHeartbeats 1600000 in
theorem put_reply_no (er tl : Int) (sl : Bool) (a0 : Option Addr) (n c0 : Nat) (W : World) (hn : n ≤ 9223372036854775807) (hr : tellsB er tl n = false) :
    Calls Tryz.prog 86 #[.agg #[.int .i64 er, .int .i64 tl, .bool sl, .slice a0 n c0]] W fun e w' => e = .returned (.tuple #[.slice none 0 0, .int .i64 1]) ∧ Below W.heap.size W w' := by
  have b1 : Below W.heap.size W (W.alloc (.cells #[.int .i64 er, .int .i64 tl, .bool sl, .slice a0 n c0] 51)) := (Below.refl _ W).alloc (Nat.le_refl _) _
  have hrt := reply_right er tl sl a0 n c0 (W.alloc (.cells #[.int .i64 er, .int .i64 tl, .bool sl, .slice a0 n c0] 51)) hn
  rw [hr] at hrt
  have HR := hid hrt
  clear hrt hr
  go_enter Tryz.func86, Tryz.ntmps86
  go_wp2_with fail
  refine HR.out.mono ?_
  rintro e W2 ⟨rfl, b2⟩
  go_wp2_with fail
  go_ret2
  exact ⟨rfl, b1.trans (b2.mono b1.size)⟩

end Go.Proofs.YtbahjinlcbjikaaGreat
