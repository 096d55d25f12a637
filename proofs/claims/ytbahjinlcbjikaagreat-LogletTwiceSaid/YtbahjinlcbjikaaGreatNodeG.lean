import Derived.Test.YtbahjinlcbjikaaGreatMNodeR
import Derived.Test.YtbahjinlcbjikaaGreatNodeP
import Derived.Test.YtbahjinlcbjikaaGreatTailIn
/-! Package node: body, GetRequest, GetReply. -/
namespace Go.Proofs.YtbahjinlcbjikaaGreat
open Go.RowKit

set_option maxRecDepth 100000 in
set_option maxHeartbeats 1600000 in
theorem node_body (v : Value) (l : List UInt8) (w : World) (hv : Bs w v l) (hl : l.length ≤ 1073741824) (kind least : Nat) (hk : kind ≤ 255) (hle : least ≤ 255) :
    Calls Tryz.prog 87 #[v, .int .i64 (kind : Int), .int .i64 (least : Int)] w (BodyPost w l kind least) := by
  obtain ⟨a0, c0, rfl⟩ := hv.form
  have hun := hid (wire_Unframe _ l w hv hl)
  cases hu : unframe l with
  | none =>
    have hp : ∀ e w', BodyPost w l kind least e w' = (∃ v, e = .returned (.tuple #[v, .bool false]) ∧ Below w.heap.size w w') := fun e w' => by unfold BodyPost bodyF; rw [hu]
    have Hp := hid hp
    have Hu := hid hu
    clear hp hu
    go_enter Tryz.func87, Tryz.ntmps87
    go_wp2_with fail
    refine hun.out.mono ?_
    intro e w1 hpost
    unfold UnfPost at hpost
    rw [Hu.out] at hpost
    obtain ⟨c, hc, rfl, b1⟩ := hpost
    have hcb : (c == 0) = false := beq_eq_false_iff_ne.2 hc
    clear hc hun
    go_wp2_with fail
    go_ret2
    rw [Hp.out]
    exact ⟨_, rfl, b1⟩
  | some y =>
    obtain ⟨k, x, to⟩ := y
    obtain ⟨hto, hxl, hk256⟩ := unframe_lens hu
    have Hu := hid hu
    by_cases hall : k = kind ∧ to = l.length ∧ least ≤ x.length
    · have hp : ∀ e w', BodyPost w l kind least e w' = (∃ v, e = .returned (.tuple #[v, .bool true]) ∧ Own8 w' w.heap.size 5 v x ∧ Below w.heap.size w w') := fun e w' => by unfold BodyPost bodyF; rw [hu]; simp only [if_pos hall]
      have Hp := hid hp
      obtain ⟨h1, h2, h3⟩ := hall
      have e1 : ((k : Int) == (kind : Int)) = true := beq_iff_eq.2 (by omega)
      have e2 : ((to : Int) == (l.length : Int)) = true := beq_iff_eq.2 (by omega)
      have e3 : decide ((x.length : Int) ≥ (least : Int)) = true := decide_eq_true (by omega)
      clear hp hu h1 h2
      go_enter Tryz.func87, Tryz.ntmps87
      go_wp2_with fail
      refine hun.out.mono ?_
      intro e w1 hpost
      unfold UnfPost at hpost
      rw [Hu.out] at hpost
      obtain ⟨v1, rfl, o1, b1⟩ := hpost
      obtain ⟨a1, c1, rfl⟩ := o1.form
      have HO := hid o1
      clear hun o1
      go_wp2_with fail
      go_ret2
      rw [Hp.out]
      exact ⟨_, rfl, HO.out, b1⟩
    · have hp : ∀ e w', BodyPost w l kind least e w' = (∃ v, e = .returned (.tuple #[v, .bool false]) ∧ Below w.heap.size w w') := fun e w' => by unfold BodyPost bodyF; rw [hu]; simp only [if_neg hall]
      have Hp := hid hp
      have hne : ((k : Int) == (kind : Int)) = false ∨ (((k : Int) == (kind : Int)) = true ∧ ((to : Int) == (l.length : Int)) = false) ∨ (((k : Int) == (kind : Int)) = true ∧ ((to : Int) == (l.length : Int)) = true ∧ decide (least ≤ x.length) = false) := by
        by_cases h1 : k = kind
        · by_cases h2 : to = l.length
          · exact .inr (.inr ⟨beq_iff_eq.2 (by omega), beq_iff_eq.2 (by omega), decide_eq_false (fun h3 => hall ⟨h1, h2, h3⟩)⟩)
          · exact .inr (.inl ⟨beq_iff_eq.2 (by omega), beq_eq_false_iff_ne.2 (by omega)⟩)
        · exact .inl (beq_eq_false_iff_ne.2 (by omega))
      clear hp hu hall
      rcases hne with e1 | ⟨e1, e2⟩ | ⟨e1, e2, e3⟩
      all_goals
        go_enter Tryz.func87, Tryz.ntmps87
        go_wp2_with fail
        refine hun.out.mono ?_
        intro e w1 hpost
        unfold UnfPost at hpost
        rw [Hu.out] at hpost
        obtain ⟨v1, rfl, o1, b1⟩ := hpost
        obtain ⟨a1, c1, rfl⟩ := o1.form
        clear hun o1
        go_wp2_with fail
        go_ret2
        rw [Hp.out]
        exact ⟨_, rfl, b1⟩

def getReq (l : List UInt8) : Option (Nat × Nat × Nat × List UInt8) :=
  match bodyF l 1 9 with
  | none => none
  | some x => if rightB (numOf (x.take 1)) (numOf ((x.drop 1).take 6)) (numOf ((x.drop 7).take 2)) (x.drop 9).length then some (numOf (x.take 1), numOf ((x.drop 1).take 6), numOf ((x.drop 7).take 2), x.drop 9) else none
def ReqPost (w : World) (l : List UInt8) (e : Ending) (w' : World) : Prop :=
  match getReq l with
  | none => e = .returned (.tuple #[.agg #[.int .i64 0, .int .i64 0, .int .i64 0, .slice none 0 0], .int .i64 22]) ∧ Below w.heap.size w w'
  | some (k, lo, po, d) => ∃ v, e = .returned (.tuple #[.agg #[.int .i64 (k : Int), .int .i64 (lo : Int), .int .i64 (po : Int), v], .int .i64 0]) ∧ Own8 w' w.heap.size 5 v d ∧ Below w.heap.size w w'
def getRep (l : List UInt8) : Option (Nat × Nat × Bool × List UInt8) :=
  match bodyF l 2 4 with
  | none => none
  | some x => if numOf ((x.drop 3).take 1) ≤ 1 ∧ tellsB (numOf (x.take 1)) (numOf ((x.drop 1).take 2)) (x.drop 4).length = true then some (numOf (x.take 1), numOf ((x.drop 1).take 2), decide (numOf ((x.drop 3).take 1) = 1), x.drop 4) else none
def RepPost (w : World) (l : List UInt8) (e : Ending) (w' : World) : Prop :=
  match getRep l with
  | none => e = .returned (.tuple #[.agg #[.int .i64 0, .int .i64 0, .bool false, .slice none 0 0], .int .i64 22]) ∧ Below w.heap.size w w'
  | some (er, tl, sl, d) => ∃ v, e = .returned (.tuple #[.agg #[.int .i64 (er : Int), .int .i64 (tl : Int), .bool sl, v], .int .i64 0]) ∧ Own8 w' w.heap.size 5 v d ∧ Below w.heap.size w w'

theorem size_request : (Tryz.prog.info? 55).map (·.size) = some 4 := by kernel_rfl
theorem size_reply : (Tryz.prog.info? 51).map (·.size) = some 4 := by kernel_rfl

set_option maxRecDepth 100000 in
set_option maxHeartbeats 1600000 in
theorem get_request (v : Value) (l : List UInt8) (W : World) (hv : Bs W v l) (hl : l.length ≤ 1073741824) :
    Calls Tryz.prog 77 #[v] W (ReqPost W l) := by
  obtain ⟨a0, c0, rfl⟩ := hv.form
  have b1 : Below W.heap.size W (W.alloc (.cells #[.int .i64 0, .int .i64 0, .int .i64 0, .slice none 0 0] 55)) := (Below.refl _ W).alloc (Nat.le_refl _) _
  have kR := Blk.new W #[.int .i64 0, .int .i64 0, .int .i64 0, .slice none 0 0] 55
  have hbd := node_body _ l (W.alloc (.cells #[.int .i64 0, .int .i64 0, .int .i64 0, .slice none 0 0] 55)) (hv.keep b1) hl 1 9 (by omega) (by omega)
  have HB := hid hbd
  clear hbd hv
  go_enter Tryz.func77, Tryz.ntmps77
  go_wp2_with fail
  refine HB.out.mono ?_
  intro e W2 hpost
  clear HB
  unfold BodyPost at hpost
  cases hb : bodyF l 1 9 with
  | none =>
    rw [hb] at hpost
    obtain ⟨v2, rfl, b2⟩ := hpost
    have HP := hid (show ∀ e w', ReqPost W l e w' = (e = .returned (.tuple #[.agg #[.int .i64 0, .int .i64 0, .int .i64 0, .slice none 0 0], .int .i64 22]) ∧ Below W.heap.size W w') from fun e w' => by unfold ReqPost getReq; rw [hb])
    clear hb
    have kR := kR.keep b2
    have bW := b1.trans (b2.mono b1.size)
    have m0 := kR.cell (o := 0) rfl
    have m1 := kR.cell (o := 1) rfl
    have m2 := kR.cell (o := 2) rfl
    have m3 := kR.cell (o := 3) rfl
    have f0 := kR.free 0
    have f1 := kR.free 1
    have f2 := kR.free 2
    have f3 := kR.free 3
    obtain ⟨W5, hW5⟩ : ∃ W5, (((W2.setCell ⟨W.heap.size, 0, none⟩ (.int .i64 0)).setCell ⟨W.heap.size, 1, none⟩ (.int .i64 0)).setCell ⟨W.heap.size, 2, none⟩ (.int .i64 0)).setCell ⟨W.heap.size, 3, none⟩ (.slice none 0 0) = W5 := ⟨_, rfl⟩
    have k5 := (((kR.set (o := 0) (.int .i64 0)).set (o := 1) (.int .i64 0)).set (o := 2) (.int .i64 0)).set (o := 3) (.slice none 0 0)
    rw [hW5] at k5
    simp only [List.setIfInBounds_toArray, List.set_cons_zero, List.set_cons_succ] at k5
    have b5 : Below W.heap.size W W5 := by rw [← hW5]; exact (((bW.setCell (p := ⟨W.heap.size, 0, none⟩) (by simp) _).setCell (p := ⟨W.heap.size, 1, none⟩) (by simp) _).setCell (p := ⟨W.heap.size, 2, none⟩) (by simp) _).setCell (p := ⟨W.heap.size, 3, none⟩) (by simp) _
    have HH := hid (And.intro k5 b5)
    have HW := hid hW5
    clear k5 b5 kR bW b1 b2 hW5
    go_wp2_with fail
    rw [HW.out]
    have hld := run_loadVar_row (P := Tryz.prog) W5 W.heap.size 55 55 _ (0, 0) _ HH.out.1 Tryz.underlying55 rfl size_request
    refine bodyPost_ret (v := .tuple #[.agg #[.int .i64 0, .int .i64 0, .int .i64 0, .slice none 0 0], .int .i64 22]) ?_ rfl ?_
    · simp [results, Tryz.results77, hld, asAddr]
    · rw [HP.out]; exact ⟨rfl, HH.out.2⟩
  | some bd =>
    rw [hb] at hpost
    obtain ⟨v2, rfl, o2, b2⟩ := hpost

    obtain ⟨ax, cx, rfl⟩ := o2.form
    have hbl := bodyF_len hb
    have hlen := hid (show 9 ≤ bd.length ∧ bd.length ≤ 65536 from hbl)
    have kR := kR.keep b2
    have HR := hid kR
    have HBW := hid (b1.trans (b2.mono b1.size))
    have HV := hid o2.bs
    have HSL := hid (fun (w : World) => run_slice_from (P := Tryz.prog) Tryz.underlying35 szu8 ax bd.length cx 9 (by omega) (by omega) w)
    obtain ⟨dd, hdd⟩ : ∃ dd, bd.drop 9 = dd := ⟨_, rfl⟩
    have HSV := hid (hdd ▸ bs_from o2.bs 9 hbl.1)
    have hdl := hid (show dd.length ≤ 65536 by rw [← hdd]; simp; omega)
    have Hdd := hid hdd
    clear hdd
    obtain ⟨n1, h1⟩ : ∃ n, numOf ((bd.drop (0 : Int).toNat).take (1 : Int).toNat) = n := ⟨_, rfl⟩
    obtain ⟨n2, h2⟩ : ∃ n, numOf ((bd.drop (1 : Int).toNat).take (6 : Int).toNat) = n := ⟨_, rfl⟩
    obtain ⟨n3, h3⟩ : ∃ n, numOf ((bd.drop (7 : Int).toNat).take (2 : Int).toNat) = n := ⟨_, rfl⟩
    have H1 := hid h1
    have H2 := hid h2
    have H3 := hid h3
    clear h1 h2 h3
    have Hb := hid hb
    clear kR b1 b2 o2 hbl hb
    go_wp2_with fail
    refine wp_region_tail 11 rfl Grows (fun i v x => match i with
        | 0 => v = .slice ax bd.length cx
        | 1 => v = .int .i64 (n1 : Int)
        | 2 => v = .slice ax bd.length cx
        | 3 => v = .int .i64 (n2 : Int)
        | 4 => v = .slice ax bd.length cx
        | 5 => v = .int .i64 (n3 : Int)
        | 6 => v = .slice ax bd.length cx
        | 7 => v = .slice (sla ax cx 9) (bd.length - 9) (cx - 9)
        | 8 => Own8 x W.heap.size 5 v dd
        | 9 => ∃ a9 c9, v = .agg #[.int .i64 (n1 : Int), .int .i64 (n2 : Int), .int .i64 (n3 : Int), .slice a9 dd.length c9] ∧ Own8 x W.heap.size 5 (.slice a9 dd.length c9) dd
        | 10 => ∃ g, v = .pointer (some ⟨g, 0, none⟩) ∧ Blk x g #[.int .i64 0, .int .i64 0, .int .i64 0, .slice none 0 0] 55 ∧ W2.heap.size ≤ g
        | _ => True) (by kernel_rfl) (Grows.refl _) Grows.trans ?rstab ?rsteps ?rfin
    case rstab =>
      intro i v x y hg h
      match i with
      | 0 | 1 | 2 | 3 | 4 | 5 | 6 | 7 => exact h
      | 8 => exact Own8.keep h hg
      | 9 => exact (by obtain ⟨a9, c9, e9, h9⟩ := h; exact ⟨a9, c9, e9, h9.keep hg⟩)
      | 10 => exact (by obtain ⟨g9, e9, h9, h10⟩ := h; exact ⟨g9, e9, h9.keep hg, h10⟩)
      | n + 11 => trivial
    case rsteps =>
      simp only [List.take_succ_cons, List.take_zero]
      refine ⟨?_, ?_, ?_, ?_, ?_, ?_, ?_, ?_, ?_, ?_, ?_, trivial⟩
      · intro a x hA
        have t4 := hA.at_ 4 (by rfl) rfl
        refine step_value (w' := x) (v := .slice ax bd.length cx) ?_ (Grows.refl _) ?_
        · go_simp
        · rfl
      · intro a x hA
        have t15 : a.tmps[15]?.getD undef = .slice ax bd.length cx := hA.dep_ ⟨0, .data⟩ (by simp) _ 15 rfl rfl
        have hbx := HV.out.keep hA.grown
        refine step_call (f := 88) (args := #[.slice ax bd.length cx, .int .i64 0, .int .i64 1]) (by clear hbx; go_simp) ((node_number _ _ 0 1 x hbx (by omega) (by omega) (by omega) (by have := hlen.out; omega)).mono ?_)
        rintro e w' ⟨rfl, hb⟩
        exact ⟨_, rfl, hb, congrArg (fun k : Nat => Value.int .i64 (k : Int)) H1.out⟩
      · intro a x hA
        have t4 := hA.at_ 4 (by rfl) rfl
        refine step_value (w' := x) (v := .slice ax bd.length cx) ?_ (Grows.refl _) ?_
        · go_simp
        · rfl
      · intro a x hA
        have t17 : a.tmps[17]?.getD undef = .slice ax bd.length cx := hA.dep_ ⟨2, .data⟩ (by simp) _ 17 rfl rfl
        have hbx := HV.out.keep hA.grown
        refine step_call (f := 88) (args := #[.slice ax bd.length cx, .int .i64 1, .int .i64 6]) (by clear hbx; go_simp) ((node_number _ _ 1 6 x hbx (by omega) (by omega) (by omega) (by have := hlen.out; omega)).mono ?_)
        rintro e w' ⟨rfl, hb⟩
        exact ⟨_, rfl, hb, congrArg (fun k : Nat => Value.int .i64 (k : Int)) H2.out⟩
      · intro a x hA
        have t4 := hA.at_ 4 (by rfl) rfl
        refine step_value (w' := x) (v := .slice ax bd.length cx) ?_ (Grows.refl _) ?_
        · go_simp
        · rfl
      · intro a x hA
        have t19 : a.tmps[19]?.getD undef = .slice ax bd.length cx := hA.dep_ ⟨4, .data⟩ (by simp) _ 19 rfl rfl
        have hbx := HV.out.keep hA.grown
        refine step_call (f := 88) (args := #[.slice ax bd.length cx, .int .i64 7, .int .i64 2]) (by clear hbx; go_simp) ((node_number _ _ 7 2 x hbx (by omega) (by omega) (by omega) (by have := hlen.out; omega)).mono ?_)
        rintro e w' ⟨rfl, hb⟩
        exact ⟨_, rfl, hb, congrArg (fun k : Nat => Value.int .i64 (k : Int)) H3.out⟩
      · intro a x hA
        have t4 := hA.at_ 4 (by rfl) rfl
        refine step_value (w' := x) (v := .slice ax bd.length cx) ?_ (Grows.refl _) ?_
        · go_simp
        · rfl
      · intro a x hA
        have t21 : a.tmps[21]?.getD undef = .slice ax bd.length cx := hA.dep_ ⟨6, .data⟩ (by simp) _ 21 rfl rfl
        have hsl := HSL.out x
        refine step_value (w' := x) (v := .slice (sla ax cx 9) (bd.length - 9) (cx - 9)) ?_ (Grows.refl _) rfl
        go_simp
      · intro a x hA
        have t22 : a.tmps[22]?.getD undef = .slice (sla ax cx 9) (bd.length - 9) (cx - 9) := hA.dep_ ⟨7, .data⟩ (by simp) _ 22 rfl rfl
        have hs := Nat.le_trans HBW.out.size hA.grow.size
        have hbx := HSV.out.keep hA.grown
        refine step_call (f := 42) (args := #[.slice (sla ax cx 9) (bd.length - 9) (cx - 9)]) (by clear hbx; go_simp) ((slices_Clone _ _ x hbx (by have := hdl.out; omega)).mono ?_)
        rintro e w' ⟨v, rfl, _, ho, hb⟩
        exact ⟨v, rfl, hb, ho.mono hs⟩
      · intro a x hA
        have t16 : a.tmps[16]?.getD undef = .int .i64 (n1 : Int) := hA.dep_ ⟨1, .data⟩ (by simp) _ 16 rfl rfl
        have t18 : a.tmps[18]?.getD undef = .int .i64 (n2 : Int) := hA.dep_ ⟨3, .data⟩ (by simp) _ 18 rfl rfl
        have t20 : a.tmps[20]?.getD undef = .int .i64 (n3 : Int) := hA.dep_ ⟨5, .data⟩ (by simp) _ 20 rfl rfl
        have t23 : Own8 x W.heap.size 5 (a.tmps[23]?.getD undef) dd := hA.dep_ ⟨8, .data⟩ (by simp) _ 23 rfl rfl
        obtain ⟨a9, c9, e9⟩ := t23.form
        rw [e9] at t23
        refine step_value (w' := x) (v := .agg #[.int .i64 (n1 : Int), .int .i64 (n2 : Int), .int .i64 (n3 : Int), .slice a9 dd.length c9]) ?_ (Grows.refl _) ⟨a9, c9, rfl, t23⟩
        clear t23
        go_simp
      · intro a x hA
        have hs := hA.grow.size
        refine step_value (w' := x.alloc (.cells #[.int .i64 0, .int .i64 0, .int .i64 0, .slice none 0 0] 55)) (v := .pointer (some ⟨x.heap.size, 0, none⟩)) ?_ (Grows.alloc _ _) ⟨_, rfl, Blk.new _ _ _, hs⟩
        go_simp
    case rfin =>
      intro y W' hg hV
      simp only [List.take_succ_cons, List.take_zero, AllVals] at hV
      obtain ⟨_, _, _, _, _, _, _, _, _, ub, ua, _⟩ := hV
      simp only [List.take_succ_cons, List.take_zero, List.drop_succ_cons, List.drop_zero, putAll, Act.put, List.setIfInBounds_toArray, List.set_cons_zero, List.set_cons_succ]
      obtain ⟨a9, c9, e9, o9⟩ := ub
      obtain ⟨g9, e10, k9, l9⟩ := ua
      rw [e9, e10]
      clear e9 e10
      have hbW := HBW.out.trans (Below.mono (Below.trans (below_of_drewN _ W2 1) hg) HBW.out.size)
      have kR := HR.out.keep (Below.trans (below_of_drewN _ W2 1) hg)
      have hRl := HR.out.lt
      clear hg
      have m0 := k9.cell (o := 0) rfl
      have f0 := k9.free 0
      have m1 := k9.cell (o := 1) rfl
      have f1 := k9.free 1
      have m2 := k9.cell (o := 2) rfl
      have f2 := k9.free 2
      have m3 := k9.cell (o := 3) rfl
      have f3 := k9.free 3
      have hRg : W.heap.size ≠ g9 := by omega
      have hgW : W.heap.size ≤ g9 := by have := HBW.out.size; omega
      obtain ⟨W5, hW5⟩ : ∃ W5, (((W'.setCell ⟨g9, 0, none⟩ (.int .i64 (n1 : Int))).setCell ⟨g9, 1, none⟩ (.int .i64 (n2 : Int))).setCell ⟨g9, 2, none⟩ (.int .i64 (n3 : Int))).setCell ⟨g9, 3, none⟩ (.slice a9 dd.length c9) = W5 := ⟨_, rfl⟩
      have x5 : Ext (fun b => b = g9) W' W5 := by rw [← hW5]; exact ((((Ext.refl (fun b => b = g9) W').setCell (.inl rfl) _).setCell (.inl rfl) _).setCell (.inl rfl) _).setCell (.inl rfl) _
      have k5 := ((((k9.set (o := 0) (.int .i64 (n1 : Int))).set (o := 1) (.int .i64 (n2 : Int))).set (o := 2) (.int .i64 (n3 : Int))).set (o := 3) (.slice a9 dd.length c9))
      rw [hW5] at k5
      simp only [List.setIfInBounds_toArray, List.set_cons_zero, List.set_cons_succ] at k5
      have kR5 := kR.ext x5 hRg
      have b5 := hbW.trans (x5.belowOf hbW.size (fun b hb e => by omega))
      have o5 : Own8 W5 W.heap.size 5 (.slice a9 dd.length c9) dd := own_set W' W5 g9 _ o9 k9 x5 (by decide)
      have hrt := request_right (n1 : Int) (n2 : Int) (n3 : Int) a9 dd.length c9 W5 (by have := hdl.out; omega)
      have HH := hid (And.intro k5 (And.intro kR5 (And.intro b5 o5)))
      have HW5 := hid hW5
      clear o9 k9 x5 kR5 b5 kR hbW hRl o5 l9 hRg hgW hW5
      go_wp2_with fail
      rw [HW5.out]
      refine hrt.mono ?_
      rintro e W6 ⟨rfl, b6⟩
      have k6 := HH.out.1.keep b6
      have kR6 := HH.out.2.1.keep b6
      have b6W := HH.out.2.2.1.trans (b6.mono HH.out.2.2.1.size)
      have o6 := HH.out.2.2.2.keep b6
      clear hrt HH HW5 b6 m0 m1 m2 m3 f0 f1 f2 f3
      cases hrb : rightB (n1 : Int) (n2 : Int) (n3 : Int) dd.length
      · have HP := hid (show ∀ e w', ReqPost W l e w' = (e = .returned (.tuple #[.agg #[.int .i64 0, .int .i64 0, .int .i64 0, .slice none 0 0], .int .i64 22]) ∧ Below W.heap.size W w') from fun e w' => by
          have h1 : numOf (bd.take 1) = n1 := H1.out
          have h2 : numOf ((bd.drop 1).take 6) = n2 := H2.out
          have h3 : numOf ((bd.drop 7).take 2) = n3 := H3.out
          unfold ReqPost getReq; rw [Hb.out]; simp only [h1, h2, h3, Hdd.out, hrb]; rfl)
        clear hrb
        have r0 := kR6.cell (o := 0) rfl
        have f0 := kR6.free 0
        have r1 := kR6.cell (o := 1) rfl
        have f1 := kR6.free 1
        have r2 := kR6.cell (o := 2) rfl
        have f2 := kR6.free 2
        have r3 := kR6.cell (o := 3) rfl
        have f3 := kR6.free 3
        obtain ⟨W7, hW7⟩ : ∃ W7, (((W6.setCell ⟨W.heap.size, 0, none⟩ (.int .i64 0)).setCell ⟨W.heap.size, 1, none⟩ (.int .i64 0)).setCell ⟨W.heap.size, 2, none⟩ (.int .i64 0)).setCell ⟨W.heap.size, 3, none⟩ (.slice none 0 0) = W7 := ⟨_, rfl⟩
        have k7 := ((((kR6.set (o := 0) (.int .i64 0)).set (o := 1) (.int .i64 0)).set (o := 2) (.int .i64 0)).set (o := 3) (.slice none 0 0))
        rw [hW7] at k7
        simp only [List.setIfInBounds_toArray, List.set_cons_zero, List.set_cons_succ] at k7
        have x7 : Ext (fun b => b = W.heap.size) W6 W7 := by rw [← hW7]; exact ((((Ext.refl (fun b => b = W.heap.size) W6).setCell (.inl rfl) _).setCell (.inl rfl) _).setCell (.inl rfl) _).setCell (.inl rfl) _
        have o7 := own_set W6 W7 W.heap.size _ o6 kR6 x7 (by decide)
        have b7 : Below W.heap.size W W7 := b6W.trans (x7.belowOf b6W.size (fun b hb e => by omega))
        have HH := hid (And.intro k7 (And.intro o7 b7))
        have HW7 := hid hW7
        clear k7 o7 b7 x7 o6 k6 kR6 b6W hW7
        go_wp2_with fail
        rw [HW7.out]
        have hld := run_loadVar_row (P := Tryz.prog) W7 W.heap.size 55 55 _ (0, 0) _ HH.out.1 Tryz.underlying55 rfl size_request
        refine bodyPost_ret (v := .tuple #[.agg #[.int .i64 0, .int .i64 0, .int .i64 0, .slice none 0 0], .int .i64 22]) ?_ rfl ?_
        · simp [results, Tryz.results77, hld, asAddr]
        · rw [HP.out]; exact ⟨rfl, HH.out.2.2⟩
      · have HP := hid (show ∀ e w', ReqPost W l e w' = (∃ v, e = .returned (.tuple #[.agg #[.int .i64 (n1 : Int), .int .i64 (n2 : Int), .int .i64 (n3 : Int), v], .int .i64 0]) ∧ Own8 w' W.heap.size 5 v dd ∧ Below W.heap.size W w') from fun e w' => by
          have h1 : numOf (bd.take 1) = n1 := H1.out
          have h2 : numOf ((bd.drop 1).take 6) = n2 := H2.out
          have h3 : numOf ((bd.drop 7).take 2) = n3 := H3.out
          unfold ReqPost getReq; rw [Hb.out]; simp only [h1, h2, h3, Hdd.out, hrb]; rfl)
        clear hrb
        have m0 := k6.cell (o := 0) rfl
        have m1 := k6.cell (o := 1) rfl
        have m2 := k6.cell (o := 2) rfl
        have m3 := k6.cell (o := 3) rfl
        have r0 := kR6.cell (o := 0) rfl
        have f0 := kR6.free 0
        have r1 := kR6.cell (o := 1) rfl
        have f1 := kR6.free 1
        have r2 := kR6.cell (o := 2) rfl
        have f2 := kR6.free 2
        have r3 := kR6.cell (o := 3) rfl
        have f3 := kR6.free 3
        obtain ⟨W7, hW7⟩ : ∃ W7, (((W6.setCell ⟨W.heap.size, 0, none⟩ (.int .i64 (n1 : Int))).setCell ⟨W.heap.size, 1, none⟩ (.int .i64 (n2 : Int))).setCell ⟨W.heap.size, 2, none⟩ (.int .i64 (n3 : Int))).setCell ⟨W.heap.size, 3, none⟩ (.slice a9 dd.length c9) = W7 := ⟨_, rfl⟩
        have k7 := ((((kR6.set (o := 0) (.int .i64 (n1 : Int))).set (o := 1) (.int .i64 (n2 : Int))).set (o := 2) (.int .i64 (n3 : Int))).set (o := 3) (.slice a9 dd.length c9))
        rw [hW7] at k7
        simp only [List.setIfInBounds_toArray, List.set_cons_zero, List.set_cons_succ] at k7
        have x7 : Ext (fun b => b = W.heap.size) W6 W7 := by rw [← hW7]; exact ((((Ext.refl (fun b => b = W.heap.size) W6).setCell (.inl rfl) _).setCell (.inl rfl) _).setCell (.inl rfl) _).setCell (.inl rfl) _
        have o7 := own_set W6 W7 W.heap.size _ o6 kR6 x7 (by decide)
        have b7 : Below W.heap.size W W7 := b6W.trans (x7.belowOf b6W.size (fun b hb e => by omega))
        have HH := hid (And.intro k7 (And.intro o7 b7))
        have HW7 := hid hW7
        clear k7 o7 b7 x7 o6 k6 kR6 b6W hW7
        go_wp2_with fail
        rw [HW7.out]
        have hld := run_loadVar_row (P := Tryz.prog) W7 W.heap.size 55 55 _ (0, 0) _ HH.out.1 Tryz.underlying55 rfl size_request
        refine bodyPost_ret (v := .tuple #[.agg #[.int .i64 (n1 : Int), .int .i64 (n2 : Int), .int .i64 (n3 : Int), .slice a9 dd.length c9], .int .i64 0]) ?_ rfl ?_
        · simp [results, Tryz.results77, hld, asAddr]
        · rw [HP.out]; exact ⟨_, rfl, HH.out.2.1, HH.out.2.2⟩

set_option maxRecDepth 100000 in
set_option maxHeartbeats 3200000 in
theorem get_reply (v : Value) (l : List UInt8) (W : World) (hv : Bs W v l) (hl : l.length ≤ 1073741824) :
    Calls Tryz.prog 48 #[v] W (RepPost W l) := by
  obtain ⟨a0, c0, rfl⟩ := hv.form
  have b1 : Below W.heap.size W (W.alloc (.cells #[.int .i64 0, .int .i64 0, .bool false, .slice none 0 0] 51)) := (Below.refl _ W).alloc (Nat.le_refl _) _
  have kR := Blk.new W #[.int .i64 0, .int .i64 0, .bool false, .slice none 0 0] 51
  have hbd := node_body _ l (W.alloc (.cells #[.int .i64 0, .int .i64 0, .bool false, .slice none 0 0] 51)) (hv.keep b1) hl 2 4 (by omega) (by omega)
  have HB := hid hbd
  clear hbd hv
  go_enter Tryz.func48, Tryz.ntmps48
  go_wp2_with fail
  refine HB.out.mono ?_
  intro e W2 hpost
  clear HB
  unfold BodyPost at hpost
  cases hb : bodyF l 2 4 with
  | none =>
    rw [hb] at hpost
    obtain ⟨v2, rfl, b2⟩ := hpost
    have HP := hid (show ∀ e w', RepPost W l e w' = (e = .returned (.tuple #[.agg #[.int .i64 0, .int .i64 0, .bool false, .slice none 0 0], .int .i64 22]) ∧ Below W.heap.size W w') from fun e w' => by unfold RepPost getRep; rw [hb])
    clear hb
    have kR := kR.keep b2
    have bW := b1.trans (b2.mono b1.size)
    have m0 := kR.cell (o := 0) rfl
    have m1 := kR.cell (o := 1) rfl
    have m2 := kR.cell (o := 2) rfl
    have m3 := kR.cell (o := 3) rfl
    have f0 := kR.free 0
    have f1 := kR.free 1
    have f2 := kR.free 2
    have f3 := kR.free 3
    obtain ⟨W5, hW5⟩ : ∃ W5, (((W2.setCell ⟨W.heap.size, 0, none⟩ (.int .i64 0)).setCell ⟨W.heap.size, 1, none⟩ (.int .i64 0)).setCell ⟨W.heap.size, 2, none⟩ (.bool false)).setCell ⟨W.heap.size, 3, none⟩ (.slice none 0 0) = W5 := ⟨_, rfl⟩
    have k5 := (((kR.set (o := 0) (.int .i64 0)).set (o := 1) (.int .i64 0)).set (o := 2) (.bool false)).set (o := 3) (.slice none 0 0)
    rw [hW5] at k5
    simp only [List.setIfInBounds_toArray, List.set_cons_zero, List.set_cons_succ] at k5
    have b5 : Below W.heap.size W W5 := by rw [← hW5]; exact (((bW.setCell (p := ⟨W.heap.size, 0, none⟩) (by simp) _).setCell (p := ⟨W.heap.size, 1, none⟩) (by simp) _).setCell (p := ⟨W.heap.size, 2, none⟩) (by simp) _).setCell (p := ⟨W.heap.size, 3, none⟩) (by simp) _
    have HH := hid (And.intro k5 b5)
    have HW := hid hW5
    clear k5 b5 kR bW b1 b2 hW5
    go_wp2_with fail
    rw [HW.out]
    have hld := run_loadVar_row (P := Tryz.prog) W5 W.heap.size 51 51 _ (0, 0) _ HH.out.1 Tryz.underlying51 rfl size_reply
    refine bodyPost_ret (v := .tuple #[.agg #[.int .i64 0, .int .i64 0, .bool false, .slice none 0 0], .int .i64 22]) ?_ rfl ?_
    · simp [results, Tryz.results48, hld, asAddr]
    · rw [HP.out]; exact ⟨rfl, HH.out.2⟩
  | some bd =>
    rw [hb] at hpost
    obtain ⟨v2, rfl, o2, b2⟩ := hpost
    have hbl := bodyF_len hb
    rcases o2.bs.cases with ⟨_, h0⟩ | ⟨gx, ox, cx, rfl, hcx, hmx, hrx⟩
    · rw [h0] at hbl; simp at hbl
    obtain ⟨y0, hy0⟩ : ∃ y, bd[0]? = some y := ⟨bd[0], by simp⟩
    obtain ⟨y3, hy3⟩ : ∃ y, bd[3]? = some y := ⟨bd[3], by simp⟩
    have hc0 := hrx 0 _ hy0
    have hc3 := hrx 3 _ hy3
    have hn1 := num_one hy0
    have hn3 := num_one hy3
    have hlt0 := y0.toNat_lt
    have hlt3 := y3.toNat_lt
    unfold bv at hc0 hc3
    generalize y0.toNat = u0 at *
    generalize y3.toNat = u3 at *
    rw [Nat.add_zero] at hc0
    clear hy0 hy3 hrx
    have hl3 : (3 : Int) < (bd.length : Int) := by omega
    by_cases hle : u3 ≤ 1
    · have hd9 : decide ((u3 : Int) > 1) = false := decide_eq_false (by omega)
      obtain ⟨slb, hsd⟩ : ∃ b, decide (u3 = 1) = b := ⟨_, rfl⟩
      have HSB := hid (show ((u3 : Int) == 1) = slb by rw [← hsd]; by_cases h : u3 = 1 <;> simp [h] <;> omega)
      have HSD := hid hsd
      have HLE := hid hle
      have hu0 := hid hlt0
      have HC0 := hid hc0
      have HC3 := hid hc3
      have H1 := hid hn1
      have H3 := hid hn3
      clear hsd hn1 hn3 hc0 hlt0
      have hlen := hid (show 4 ≤ bd.length ∧ bd.length ≤ 65536 from hbl)
      have kR := kR.keep b2
      have HR := hid kR
      have HBW := hid (b1.trans (b2.mono b1.size))
      have HV := hid o2.bs
      have HSL := hid (fun (w : World) => run_slice_from (P := Tryz.prog) Tryz.underlying35 szu8 (some ⟨gx, ox, none⟩) bd.length cx 4 (by omega) (by omega) w)
      obtain ⟨dd, hdd⟩ : ∃ dd, bd.drop 4 = dd := ⟨_, rfl⟩
      have HSV := hid (hdd ▸ bs_from o2.bs 4 hbl.1)
      have hdl := hid (show dd.length ≤ 65536 by rw [← hdd]; simp; omega)
      have Hdd := hid hdd
      clear hdd
      obtain ⟨n2, h2⟩ : ∃ n, numOf ((bd.drop (1 : Int).toNat).take (2 : Int).toNat) = n := ⟨_, rfl⟩
      have H2 := hid h2
      clear h2
      have Hb := hid hb
      clear kR b1 b2 o2 hbl hb
      go_wp2_with fail
      refine wp_region_tail 15 rfl Grows (fun i v x => match i with
          | 0 => v = .slice (some ⟨gx, ox, none⟩) bd.length cx
          | 1 => v = .pointer (some ⟨gx, ox, none⟩)
          | 2 => v = .int .u8 (u0 : Int)
          | 3 => v = .int .i64 (u0 : Int)
          | 4 => v = .slice (some ⟨gx, ox, none⟩) bd.length cx
          | 5 => v = .int .i64 (n2 : Int)
          | 6 => v = .slice (some ⟨gx, ox, none⟩) bd.length cx
          | 7 => v = .pointer (some ⟨gx, ox + 3, none⟩)
          | 8 => v = .int .u8 (u3 : Int)
          | 9 => v = .bool slb
          | 10 => v = .slice (some ⟨gx, ox, none⟩) bd.length cx
          | 11 => v = .slice (sla (some ⟨gx, ox, none⟩) cx 4) (bd.length - 4) (cx - 4)
          | 12 => Own8 x W.heap.size 5 v dd
          | 13 => ∃ a9 c9, v = .agg #[.int .i64 (u0 : Int), .int .i64 (n2 : Int), .bool slb, .slice a9 dd.length c9] ∧ Own8 x W.heap.size 5 (.slice a9 dd.length c9) dd
          | 14 => ∃ g, v = .pointer (some ⟨g, 0, none⟩) ∧ Blk x g #[.int .i64 0, .int .i64 0, .bool false, .slice none 0 0] 51 ∧ W2.heap.size ≤ g
          | _ => True) (by kernel_rfl) (Grows.refl _) Grows.trans ?rstab ?rsteps ?rfin
      case rstab =>
        intro i v x y hg h
        match i with
        | 0 | 1 | 2 | 3 | 4 | 5 | 6 | 7 | 8 | 9 | 10 | 11 => exact h
        | 12 => exact Own8.keep h hg
        | 13 => exact (by obtain ⟨a9, c9, e9, h9⟩ := h; exact ⟨a9, c9, e9, h9.keep hg⟩)
        | 14 => exact (by obtain ⟨g9, e9, h9, h10⟩ := h; exact ⟨g9, e9, h9.keep hg, h10⟩)
        | n + 15 => trivial
      case rsteps =>
        simp only [List.take_succ_cons, List.take_zero]
        refine ⟨?_, ?_, ?_, ?_, ?_, ?_, ?_, ?_, ?_, ?_, ?_, ?_, ?_, ?_, ?_, trivial⟩
        · intro a x hA
          have t4 := hA.at_ 4 (by rfl) rfl
          refine step_value (w' := x) (v := .slice (some ⟨gx, ox, none⟩) bd.length cx) ?_ (Grows.refl _) ?_
          · go_simp
          · rfl
        · intro a x hA
          have t21 : a.tmps[21]?.getD undef = .slice (some ⟨gx, ox, none⟩) bd.length cx := hA.dep_ ⟨0, .data⟩ (by simp) _ 21 rfl rfl
          have hlx := hlen.out
          have hne : ¬ bd = [] := by rintro rfl; simp at hlx
          refine step_value (w' := x) (v := .pointer (some ⟨gx, ox, none⟩)) ?_ (Grows.refl _) rfl
          go_simp
        · intro a x hA
          have t22 : a.tmps[22]?.getD undef = .pointer (some ⟨gx, ox, none⟩) := hA.dep_ ⟨1, .data⟩ (by simp) _ 22 rfl rfl
          have g0 : x.cell? ⟨gx, ox, none⟩ = some (.int .u8 (u0 : Int)) := by rw [hA.grown.cell (World.block_lt_of_cell? W2 _ HC0.out)]; exact HC0.out
          refine step_value (w' := x) (v := .int .u8 (u0 : Int)) ?_ (Grows.refl _) rfl
          go_simp
        · intro a x hA
          have t23 : a.tmps[23]?.getD undef = .int .u8 (u0 : Int) := hA.dep_ ⟨2, .data⟩ (by simp) _ 23 rfl rfl
          have hu := hu0.out
          have hw : IntKind.i64.wrap (u0 : Int) = (u0 : Int) := IntWalk.i64_in _ (by omega)
          refine step_value (w' := x) (v := .int .i64 (u0 : Int)) ?_ (Grows.refl _) rfl
          go_simp
        · intro a x hA
          have t4 := hA.at_ 4 (by rfl) rfl
          refine step_value (w' := x) (v := .slice (some ⟨gx, ox, none⟩) bd.length cx) ?_ (Grows.refl _) ?_
          · go_simp
          · rfl
        · intro a x hA
          have t25 : a.tmps[25]?.getD undef = .slice (some ⟨gx, ox, none⟩) bd.length cx := hA.dep_ ⟨4, .data⟩ (by simp) _ 25 rfl rfl
          have hbx := HV.out.keep hA.grown
          refine step_call (f := 88) (args := #[.slice (some ⟨gx, ox, none⟩) bd.length cx, .int .i64 1, .int .i64 2]) (by clear hbx; go_simp) ((node_number _ _ 1 2 x hbx (by omega) (by omega) (by omega) (by have := hlen.out; omega)).mono ?_)
          rintro e w' ⟨rfl, hb⟩
          exact ⟨_, rfl, hb, congrArg (fun k : Nat => Value.int .i64 (k : Int)) H2.out⟩
        · intro a x hA
          have t4 := hA.at_ 4 (by rfl) rfl
          refine step_value (w' := x) (v := .slice (some ⟨gx, ox, none⟩) bd.length cx) ?_ (Grows.refl _) ?_
          · go_simp
          · rfl
        · intro a x hA
          have t27 : a.tmps[27]?.getD undef = .slice (some ⟨gx, ox, none⟩) bd.length cx := hA.dep_ ⟨6, .data⟩ (by simp) _ 27 rfl rfl
          have hlx := hlen.out
          have hlx3 : (3 : Int) < (bd.length : Int) := by omega
          refine step_value (w' := x) (v := .pointer (some ⟨gx, ox + 3, none⟩)) ?_ (Grows.refl _) rfl
          go_simp
        · intro a x hA
          have t28 : a.tmps[28]?.getD undef = .pointer (some ⟨gx, ox + 3, none⟩) := hA.dep_ ⟨7, .data⟩ (by simp) _ 28 rfl rfl
          have g0 : x.cell? ⟨gx, ox + 3, none⟩ = some (.int .u8 (u3 : Int)) := by rw [hA.grown.cell (World.block_lt_of_cell? W2 _ HC3.out)]; exact HC3.out
          refine step_value (w' := x) (v := .int .u8 (u3 : Int)) ?_ (Grows.refl _) rfl
          go_simp
        · intro a x hA
          have t29 : a.tmps[29]?.getD undef = .int .u8 (u3 : Int) := hA.dep_ ⟨8, .data⟩ (by simp) _ 29 rfl rfl
          have hsb := HSB.out
          refine step_value (w' := x) (v := .bool slb) ?_ (Grows.refl _) rfl
          go_simp
        · intro a x hA
          have t4 := hA.at_ 4 (by rfl) rfl
          refine step_value (w' := x) (v := .slice (some ⟨gx, ox, none⟩) bd.length cx) ?_ (Grows.refl _) ?_
          · go_simp
          · rfl
        · intro a x hA
          have t31 : a.tmps[31]?.getD undef = .slice (some ⟨gx, ox, none⟩) bd.length cx := hA.dep_ ⟨10, .data⟩ (by simp) _ 31 rfl rfl
          have hsl := HSL.out x
          refine step_value (w' := x) (v := .slice (sla (some ⟨gx, ox, none⟩) cx 4) (bd.length - 4) (cx - 4)) ?_ (Grows.refl _) rfl
          go_simp
        · intro a x hA
          have t32 : a.tmps[32]?.getD undef = .slice (sla (some ⟨gx, ox, none⟩) cx 4) (bd.length - 4) (cx - 4) := hA.dep_ ⟨11, .data⟩ (by simp) _ 32 rfl rfl
          have hs := Nat.le_trans HBW.out.size hA.grow.size
          have hbx := HSV.out.keep hA.grown
          refine step_call (f := 42) (args := #[.slice (sla (some ⟨gx, ox, none⟩) cx 4) (bd.length - 4) (cx - 4)]) (by clear hbx; go_simp) ((slices_Clone _ _ x hbx (by have := hdl.out; omega)).mono ?_)
          rintro e w' ⟨v, rfl, _, ho, hb⟩
          exact ⟨v, rfl, hb, ho.mono hs⟩
        · intro a x hA
          have t24 : a.tmps[24]?.getD undef = .int .i64 (u0 : Int) := hA.dep_ ⟨3, .data⟩ (by simp) _ 24 rfl rfl
          have t26 : a.tmps[26]?.getD undef = .int .i64 (n2 : Int) := hA.dep_ ⟨5, .data⟩ (by simp) _ 26 rfl rfl
          have t30 : a.tmps[30]?.getD undef = .bool slb := hA.dep_ ⟨9, .data⟩ (by simp) _ 30 rfl rfl
          have t33 : Own8 x W.heap.size 5 (a.tmps[33]?.getD undef) dd := hA.dep_ ⟨12, .data⟩ (by simp) _ 33 rfl rfl
          obtain ⟨a9, c9, e9⟩ := t33.form
          rw [e9] at t33
          refine step_value (w' := x) (v := .agg #[.int .i64 (u0 : Int), .int .i64 (n2 : Int), .bool slb, .slice a9 dd.length c9]) ?_ (Grows.refl _) ⟨a9, c9, rfl, t33⟩
          clear t33
          go_simp
        · intro a x hA
          have hs := hA.grow.size
          refine step_value (w' := x.alloc (.cells #[.int .i64 0, .int .i64 0, .bool false, .slice none 0 0] 51)) (v := .pointer (some ⟨x.heap.size, 0, none⟩)) ?_ (Grows.alloc _ _) ⟨_, rfl, Blk.new _ _ _, hs⟩
          go_simp
      case rfin =>
        intro y W' hg hV
        simp only [List.take_succ_cons, List.take_zero, AllVals] at hV
        obtain ⟨_, _, _, _, _, _, _, _, _, _, _, _, _, ub, ua, _⟩ := hV
        simp only [List.take_succ_cons, List.take_zero, List.drop_succ_cons, List.drop_zero, putAll, Act.put, List.setIfInBounds_toArray, List.set_cons_zero, List.set_cons_succ]
        obtain ⟨a9, c9, e9, o9⟩ := ub
        obtain ⟨g9, e10, k9, l9⟩ := ua
        rw [e9, e10]
        clear e9 e10
        have hbW := HBW.out.trans (Below.mono (Below.trans (below_of_drewN _ W2 1) hg) HBW.out.size)
        have kR := HR.out.keep (Below.trans (below_of_drewN _ W2 1) hg)
        have hRl := HR.out.lt
        clear hg
        have m0 := k9.cell (o := 0) rfl
        have f0 := k9.free 0
        have m1 := k9.cell (o := 1) rfl
        have f1 := k9.free 1
        have m2 := k9.cell (o := 2) rfl
        have f2 := k9.free 2
        have m3 := k9.cell (o := 3) rfl
        have f3 := k9.free 3
        have hRg : W.heap.size ≠ g9 := by omega
        have hgW : W.heap.size ≤ g9 := by have := HBW.out.size; omega
        obtain ⟨W5, hW5⟩ : ∃ W5, (((W'.setCell ⟨g9, 0, none⟩ (.int .i64 (u0 : Int))).setCell ⟨g9, 1, none⟩ (.int .i64 (n2 : Int))).setCell ⟨g9, 2, none⟩ (.bool slb)).setCell ⟨g9, 3, none⟩ (.slice a9 dd.length c9) = W5 := ⟨_, rfl⟩
        have x5 : Ext (fun b => b = g9) W' W5 := by rw [← hW5]; exact ((((Ext.refl (fun b => b = g9) W').setCell (.inl rfl) _).setCell (.inl rfl) _).setCell (.inl rfl) _).setCell (.inl rfl) _
        have k5 := ((((k9.set (o := 0) (.int .i64 (u0 : Int))).set (o := 1) (.int .i64 (n2 : Int))).set (o := 2) (.bool slb)).set (o := 3) (.slice a9 dd.length c9))
        rw [hW5] at k5
        simp only [List.setIfInBounds_toArray, List.set_cons_zero, List.set_cons_succ] at k5
        have kR5 := kR.ext x5 hRg
        have b5 := hbW.trans (x5.belowOf hbW.size (fun b hb e => by omega))
        have o5 : Own8 W5 W.heap.size 5 (.slice a9 dd.length c9) dd := own_set W' W5 g9 _ o9 k9 x5 (by decide)
        have hrt := reply_right (u0 : Int) (n2 : Int) slb a9 dd.length c9 W5 (by have := hdl.out; omega)
        have HH := hid (And.intro k5 (And.intro kR5 (And.intro b5 o5)))
        have HW5 := hid hW5
        clear o9 k9 x5 kR5 b5 kR hbW hRl o5 l9 hRg hgW hW5
        go_wp2_with fail
        rw [HW5.out]
        refine hrt.mono ?_
        rintro e W6 ⟨rfl, b6⟩
        have k6 := HH.out.1.keep b6
        have kR6 := HH.out.2.1.keep b6
        have b6W := HH.out.2.2.1.trans (b6.mono HH.out.2.2.1.size)
        have o6 := HH.out.2.2.2.keep b6
        clear hrt HH HW5 b6 m0 m1 m2 m3 f0 f1 f2 f3
        cases hrb : tellsB (u0 : Int) (n2 : Int) dd.length
        · have HP := hid (show ∀ e w', RepPost W l e w' = (e = .returned (.tuple #[.agg #[.int .i64 0, .int .i64 0, .bool false, .slice none 0 0], .int .i64 22]) ∧ Below W.heap.size W w') from fun e w' => by
            have h1 : numOf (bd.take 1) = u0 := H1.out
            have h2 : numOf ((bd.drop 1).take 2) = n2 := H2.out
            have h3 : numOf ((bd.drop 3).take 1) = u3 := H3.out
            unfold RepPost getRep; rw [Hb.out]; simp only [h1, h2, h3, Hdd.out, hrb, Bool.false_eq_true, and_false, if_false])
          clear hrb
          have r0 := kR6.cell (o := 0) rfl
          have f0 := kR6.free 0
          have r1 := kR6.cell (o := 1) rfl
          have f1 := kR6.free 1
          have r2 := kR6.cell (o := 2) rfl
          have f2 := kR6.free 2
          have r3 := kR6.cell (o := 3) rfl
          have f3 := kR6.free 3
          obtain ⟨W7, hW7⟩ : ∃ W7, (((W6.setCell ⟨W.heap.size, 0, none⟩ (.int .i64 0)).setCell ⟨W.heap.size, 1, none⟩ (.int .i64 0)).setCell ⟨W.heap.size, 2, none⟩ (.bool false)).setCell ⟨W.heap.size, 3, none⟩ (.slice none 0 0) = W7 := ⟨_, rfl⟩
          have k7 := ((((kR6.set (o := 0) (.int .i64 0)).set (o := 1) (.int .i64 0)).set (o := 2) (.bool false)).set (o := 3) (.slice none 0 0))
          rw [hW7] at k7
          simp only [List.setIfInBounds_toArray, List.set_cons_zero, List.set_cons_succ] at k7
          have x7 : Ext (fun b => b = W.heap.size) W6 W7 := by rw [← hW7]; exact ((((Ext.refl (fun b => b = W.heap.size) W6).setCell (.inl rfl) _).setCell (.inl rfl) _).setCell (.inl rfl) _).setCell (.inl rfl) _
          have o7 := own_set W6 W7 W.heap.size _ o6 kR6 x7 (by decide)
          have b7 : Below W.heap.size W W7 := b6W.trans (x7.belowOf b6W.size (fun b hb e => by omega))
          have HH := hid (And.intro k7 (And.intro o7 b7))
          have HW7 := hid hW7
          clear k7 o7 b7 x7 o6 k6 kR6 b6W hW7
          go_wp2_with fail
          rw [HW7.out]
          have hld := run_loadVar_row (P := Tryz.prog) W7 W.heap.size 51 51 _ (0, 0) _ HH.out.1 Tryz.underlying51 rfl size_reply
          refine bodyPost_ret (v := .tuple #[.agg #[.int .i64 0, .int .i64 0, .bool false, .slice none 0 0], .int .i64 22]) ?_ rfl ?_
          · simp [results, Tryz.results48, hld, asAddr]
          · rw [HP.out]; exact ⟨rfl, HH.out.2.2⟩
        · have HP := hid (show ∀ e w', RepPost W l e w' = (∃ v, e = .returned (.tuple #[.agg #[.int .i64 (u0 : Int), .int .i64 (n2 : Int), .bool slb, v], .int .i64 0]) ∧ Own8 w' W.heap.size 5 v dd ∧ Below W.heap.size W w') from fun e w' => by
            have h1 : numOf (bd.take 1) = u0 := H1.out
            have h2 : numOf ((bd.drop 1).take 2) = n2 := H2.out
            have h3 : numOf ((bd.drop 3).take 1) = u3 := H3.out
            have h4 : decide (u3 = 1) = slb := HSD.out
            unfold RepPost getRep; rw [Hb.out]; simp only [h1, h2, h3, Hdd.out, hrb, h4, HLE.out, and_self, if_true])
          clear hrb
          have m0 := k6.cell (o := 0) rfl
          have m1 := k6.cell (o := 1) rfl
          have m2 := k6.cell (o := 2) rfl
          have m3 := k6.cell (o := 3) rfl
          have r0 := kR6.cell (o := 0) rfl
          have f0 := kR6.free 0
          have r1 := kR6.cell (o := 1) rfl
          have f1 := kR6.free 1
          have r2 := kR6.cell (o := 2) rfl
          have f2 := kR6.free 2
          have r3 := kR6.cell (o := 3) rfl
          have f3 := kR6.free 3
          obtain ⟨W7, hW7⟩ : ∃ W7, (((W6.setCell ⟨W.heap.size, 0, none⟩ (.int .i64 (u0 : Int))).setCell ⟨W.heap.size, 1, none⟩ (.int .i64 (n2 : Int))).setCell ⟨W.heap.size, 2, none⟩ (.bool slb)).setCell ⟨W.heap.size, 3, none⟩ (.slice a9 dd.length c9) = W7 := ⟨_, rfl⟩
          have k7 := ((((kR6.set (o := 0) (.int .i64 (u0 : Int))).set (o := 1) (.int .i64 (n2 : Int))).set (o := 2) (.bool slb)).set (o := 3) (.slice a9 dd.length c9))
          rw [hW7] at k7
          simp only [List.setIfInBounds_toArray, List.set_cons_zero, List.set_cons_succ] at k7
          have x7 : Ext (fun b => b = W.heap.size) W6 W7 := by rw [← hW7]; exact ((((Ext.refl (fun b => b = W.heap.size) W6).setCell (.inl rfl) _).setCell (.inl rfl) _).setCell (.inl rfl) _).setCell (.inl rfl) _
          have o7 := own_set W6 W7 W.heap.size _ o6 kR6 x7 (by decide)
          have b7 : Below W.heap.size W W7 := b6W.trans (x7.belowOf b6W.size (fun b hb e => by omega))
          have HH := hid (And.intro k7 (And.intro o7 b7))
          have HW7 := hid hW7
          clear k7 o7 b7 x7 o6 k6 kR6 b6W hW7
          go_wp2_with fail
          rw [HW7.out]
          have hld := run_loadVar_row (P := Tryz.prog) W7 W.heap.size 51 51 _ (0, 0) _ HH.out.1 Tryz.underlying51 rfl size_reply
          refine bodyPost_ret (v := .tuple #[.agg #[.int .i64 (u0 : Int), .int .i64 (n2 : Int), .bool slb, .slice a9 dd.length c9], .int .i64 0]) ?_ rfl ?_
          · simp [results, Tryz.results48, hld, asAddr]
          · rw [HP.out]; exact ⟨_, rfl, HH.out.2.1, HH.out.2.2⟩
    · have hd9 : decide ((u3 : Int) > 1) = true := decide_eq_true (by omega)
      have HP := hid (show ∀ e w', RepPost W l e w' = (e = .returned (.tuple #[.agg #[.int .i64 0, .int .i64 0, .bool false, .slice none 0 0], .int .i64 22]) ∧ Below W.heap.size W w') from fun e w' => by unfold RepPost getRep; rw [hb]; simp only [hn3, hle, false_and, if_false])
      clear hb hn1 hn3 o2 hc0
      have kR := kR.keep b2
      have bW := b1.trans (b2.mono b1.size)
      have m0 := kR.cell (o := 0) rfl
      have m1 := kR.cell (o := 1) rfl
      have m2 := kR.cell (o := 2) rfl
      have m3 := kR.cell (o := 3) rfl
      have f0 := kR.free 0
      have f1 := kR.free 1
      have f2 := kR.free 2
      have f3 := kR.free 3
      obtain ⟨W5, hW5⟩ : ∃ W5, (((W2.setCell ⟨W.heap.size, 0, none⟩ (.int .i64 0)).setCell ⟨W.heap.size, 1, none⟩ (.int .i64 0)).setCell ⟨W.heap.size, 2, none⟩ (.bool false)).setCell ⟨W.heap.size, 3, none⟩ (.slice none 0 0) = W5 := ⟨_, rfl⟩
      have k5 := (((kR.set (o := 0) (.int .i64 0)).set (o := 1) (.int .i64 0)).set (o := 2) (.bool false)).set (o := 3) (.slice none 0 0)
      rw [hW5] at k5
      simp only [List.setIfInBounds_toArray, List.set_cons_zero, List.set_cons_succ] at k5
      have b5 : Below W.heap.size W W5 := by rw [← hW5]; exact (((bW.setCell (p := ⟨W.heap.size, 0, none⟩) (by simp) _).setCell (p := ⟨W.heap.size, 1, none⟩) (by simp) _).setCell (p := ⟨W.heap.size, 2, none⟩) (by simp) _).setCell (p := ⟨W.heap.size, 3, none⟩) (by simp) _
      have HH := hid (And.intro k5 b5)
      have HW := hid hW5
      clear k5 b5 kR bW b1 b2 hW5
      go_wp2_with fail
      rw [HW.out]
      have hld := run_loadVar_row (P := Tryz.prog) W5 W.heap.size 51 51 _ (0, 0) _ HH.out.1 Tryz.underlying51 rfl size_reply
      refine bodyPost_ret (v := .tuple #[.agg #[.int .i64 0, .int .i64 0, .bool false, .slice none 0 0], .int .i64 22]) ?_ rfl ?_
      · simp [results, Tryz.results48, hld, asAddr]
      · rw [HP.out]; exact ⟨rfl, HH.out.2⟩


end Go.Proofs.YtbahjinlcbjikaaGreat
