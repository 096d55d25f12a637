import Derived.Test.YtcdcjoofcbdilaaGreatAccB
/-! Package acceptor: GetAsk, GetAnswer. -/
namespace Go.Proofs.YtcdcjoofcbdilaaGreat
open Go.RowKit

def AskPost (w : World) (l : List UInt8) (e : Ending) (w' : World) : Prop :=
  match getAsk l with
  | none => e = .returned (.tuple #[.agg #[.int .i64 0, .int .i64 0, .int .i64 0, .int .i64 0, .slice none 0 0], .int .i64 22]) ∧ Below w.heap.size w w'
  | some (k, key, ver, bal, d) => ∃ v, e = .returned (.tuple #[.agg #[.int .i64 (k : Int), .int .i64 (key : Int), .int .i64 (ver : Int), .int .i64 (bal : Int), v], .int .i64 0]) ∧ Own8 w' w.heap.size 5 v d ∧ Below w.heap.size w w'
def AnsPost (w : World) (l : List UInt8) (e : Ending) (w' : World) : Prop :=
  match getAns l with
  | none => e = .returned (.tuple #[.agg #[.int .i64 0, .int .i64 0, .int .i64 0, .int .i64 0, .bool false, .slice none 0 0], .int .i64 22]) ∧ Below w.heap.size w w'
  | some (er, ver, pr, ba, le, d) => ∃ v, e = .returned (.tuple #[.agg #[.int .i64 (er : Int), .int .i64 (ver : Int), .int .i64 (pr : Int), .int .i64 (ba : Int), .bool le, v], .int .i64 0]) ∧ Own8 w' w.heap.size 5 v d ∧ Below w.heap.size w w'
theorem getAsk_eq {l bd dd : List UInt8} {u0 n1 n2 n3 : Nat} (hb : bodyF l 3 19 = some bd) (h1 : numOf (bd.take 1) = u0) (h2 : numOf ((bd.drop 1).take 6) = n1) (h3 : numOf ((bd.drop 7).take 6) = n2) (h4 : numOf ((bd.drop 13).take 6) = n3) (hd : bd.drop 19 = dd) :
    getAsk l = if askOk (u0 : Int) (n1 : Int) (n2 : Int) (n3 : Int) dd.length = true then some (u0, n1, n2, n3, dd) else none := by
  subst h1 h2 h3 h4 hd
  unfold getAsk
  rw [hb]
theorem getAns_eq {l bd dd : List UInt8} {u0 n1 n2 n3 u3 : Nat} {slb : Bool} (hb : bodyF l 4 20 = some bd) (h1 : numOf (bd.take 1) = u0) (h2 : numOf ((bd.drop 1).take 6) = n1) (h3 : numOf ((bd.drop 7).take 6) = n2) (h4 : numOf ((bd.drop 13).take 6) = n3) (h5 : numOf ((bd.drop 19).take 1) = u3) (h6 : decide (u3 = 1) = slb) (hle : u3 ≤ 1) (hd : bd.drop 20 = dd) :
    getAns l = if ansOk (u0 : Int) (n1 : Int) (n2 : Int) (n3 : Int) dd.length = true then some (u0, n1, n2, n3, slb, dd) else none := by
  subst h1 h2 h3 h4 h5 h6 hd
  unfold getAns
  rw [hb]
  simp only
  by_cases h : ansOk (numOf (bd.take 1)) (numOf ((bd.drop 1).take 6)) (numOf ((bd.drop 7).take 6)) (numOf ((bd.drop 13).take 6)) (bd.drop 20).length = true
  · rw [if_pos h, if_pos ⟨hle, h⟩]
  · rw [if_neg h, if_neg (fun k => h k.2)]

set_option maxRecDepth 100000 in
set_option maxHeartbeats 6400000 in
theorem acc_GetAsk (v : Value) (l : List UInt8) (W : World) (hv : Bs W v l) (hl : l.length ≤ 1073741824) :
    Calls Tryz.prog 64 #[v] W (AskPost W l) := by
  obtain ⟨a0, c0, rfl⟩ := hv.form
  have b1 : Below W.heap.size W (W.alloc (.cells #[.int .i64 0, .int .i64 0, .int .i64 0, .int .i64 0, .slice none 0 0] 48)) := (Below.refl _ W).alloc (Nat.le_refl _) _
  have kR := Blk.new W #[.int .i64 0, .int .i64 0, .int .i64 0, .int .i64 0, .slice none 0 0] 48
  have hbd := acc_body _ l (W.alloc (.cells #[.int .i64 0, .int .i64 0, .int .i64 0, .int .i64 0, .slice none 0 0] 48)) (hv.keep b1) hl 3 19 (by omega) (by omega)
  have HB := hid hbd
  clear hbd hv
  go_enter Tryz.func64, Tryz.ntmps64
  go_wp2_with fail
  refine HB.out.mono ?_
  intro e W2 hpost
  clear HB
  unfold BodyPost at hpost
  cases hb : bodyF l 3 19 with
  | none =>
    rw [hb] at hpost
    obtain ⟨v2, rfl, b2⟩ := hpost
    have HP := hid (show ∀ e w', AskPost W l e w' = (e = .returned (.tuple #[.agg #[.int .i64 0, .int .i64 0, .int .i64 0, .int .i64 0, .slice none 0 0], .int .i64 22]) ∧ Below W.heap.size W w') from fun e w' => by unfold AskPost getAsk; rw [hb])
    have kR := kR.keep b2
    have bW := b1.trans (b2.mono b1.size)
    clear hb b1 b2
    have m0 := kR.cell (o := 0) rfl
    have f0 := kR.free 0
    have m1 := kR.cell (o := 1) rfl
    have f1 := kR.free 1
    have m2 := kR.cell (o := 2) rfl
    have f2 := kR.free 2
    have m3 := kR.cell (o := 3) rfl
    have f3 := kR.free 3
    have m4 := kR.cell (o := 4) rfl
    have f4 := kR.free 4
    obtain ⟨W5, hW5⟩ : ∃ W5, (((((W2.setCell ⟨W.heap.size, 0, none⟩ (.int .i64 0)).setCell ⟨W.heap.size, 1, none⟩ (.int .i64 0)).setCell ⟨W.heap.size, 2, none⟩ (.int .i64 0)).setCell ⟨W.heap.size, 3, none⟩ (.int .i64 0)).setCell ⟨W.heap.size, 4, none⟩ (.slice none 0 0)) = W5 := ⟨_, rfl⟩
    have k5 := (((((kR.set (o := 0) (.int .i64 0)).set (o := 1) (.int .i64 0)).set (o := 2) (.int .i64 0)).set (o := 3) (.int .i64 0)).set (o := 4) (.slice none 0 0))
    rw [hW5] at k5
    simp only [List.setIfInBounds_toArray, List.set_cons_zero, List.set_cons_succ] at k5
    have b5 : Below W.heap.size W W5 := by rw [← hW5]; exact (((((bW.setCell (p := ⟨W.heap.size, 0, none⟩) (by simp) _).setCell (p := ⟨W.heap.size, 1, none⟩) (by simp) _).setCell (p := ⟨W.heap.size, 2, none⟩) (by simp) _).setCell (p := ⟨W.heap.size, 3, none⟩) (by simp) _).setCell (p := ⟨W.heap.size, 4, none⟩) (by simp) _)
    have HH := hid (And.intro k5 b5)
    have HW := hid hW5
    clear k5 b5 kR bW hW5
    go_wp2_with fail
    rw [HW.out]
    have hld := run_loadVar_row (P := Tryz.prog) W5 W.heap.size 48 48 _ (0, 0) _ HH.out.1 Tryz.underlying48 rfl size_ask
    refine bodyPost_ret (v := .tuple #[.agg #[.int .i64 0, .int .i64 0, .int .i64 0, .int .i64 0, .slice none 0 0], .int .i64 22]) ?_ rfl ?_
    · simp [results, Tryz.results64, hld, asAddr]
    · rw [HP.out]; exact ⟨rfl, HH.out.2⟩
  | some bd =>
    rw [hb] at hpost
    obtain ⟨v2, rfl, o2, b2⟩ := hpost
    have hbl := bodyF_len hb
    have bW := b1.trans (b2.mono b1.size)
    have kR := kR.keep b2
    rcases o2.bs.cases with ⟨_, h0⟩ | ⟨gx, ox, cx, rfl, hcx, hmx, hrx⟩ | ⟨h0, _⟩
    · rw [h0] at hbl; simp at hbl
    rotate_left
    · rw [h0] at hbl; simp at hbl
    have hlen := hid hbl
    obtain ⟨y0, hy0⟩ : ∃ y, bd[0]? = some y := ⟨bd[0], by simp⟩
    have hc0 := hrx 0 _ hy0
    have hn1 := num_one hy0
    have hlt0 := y0.toNat_lt
    unfold bv at hc0
    generalize y0.toNat = u0 at *
    rw [Nat.add_zero] at hc0
    clear hy0 hrx b1 b2
    have hl19 : True := trivial
    have hu0 := hid hlt0
    have HC0 := hid hc0
    have H1 := hid hn1
    have HBW := hid bW
    have HR := hid kR
    have HV := hid o2.bs
    have Hb := hid hb
    have HSL := hid (fun (w : World) => run_slice_from (P := Tryz.prog) Tryz.underlying30 szu8 (some ⟨gx, ox, none⟩) bd.length cx 19 (by omega) (by omega) w)
    obtain ⟨dd, hdd⟩ : ∃ dd, bd.drop 19 = dd := ⟨_, rfl⟩
    have HSV := hid (hdd ▸ bs_from o2.bs 19 hbl.1)
    have hdl := hid (show dd.length ≤ 65536 by rw [← hdd]; simp; omega)
    have Hdd := hid hdd
    clear hdd hn1 hc0 hlt0 bW kR o2 hb hbl
    go_wp2_with fail
    refine wp_region_tail 9 rfl Grows (fun i v x => match i with
        | 0 => v = .slice (some ⟨gx, ox, none⟩) bd.length cx
        | 1 => v = .pointer (some ⟨gx, ox, none⟩)
        | 2 => v = .int .u8 (u0 : Int)
        | 3 => v = .int .i64 (u0 : Int)
        | 4 => v = .slice (some ⟨gx, ox, none⟩) bd.length cx
        | 5 => v = .slice (sla (some ⟨gx, ox, none⟩) cx 19) (bd.length - 19) (cx - 19)
        | 6 => Own8 x W.heap.size 5 v dd
        | 7 => ∃ a9 c9, v = .agg #[.int .i64 (u0 : Int), .int .i64 0, .int .i64 0, .int .i64 0, .slice a9 dd.length c9] ∧ Own8 x W.heap.size 5 (.slice a9 dd.length c9) dd
        | 8 => ∃ g, v = .pointer (some ⟨g, 0, none⟩) ∧ Blk x g #[.int .i64 0, .int .i64 0, .int .i64 0, .int .i64 0, .slice none 0 0] 48 ∧ W2.heap.size ≤ g
        | _ => True) (by kernel_rfl) (Grows.refl _) Grows.trans ?rstab ?rsteps ?rfin
    case rstab =>
      intro i v x y hg h
      match i with
      | 0 | 1 | 2 | 3 | 4 | 5 => exact h
      | 6 => exact Own8.keep h hg
      | 7 => exact (by obtain ⟨a9, c9, e9, h9⟩ := h; exact ⟨a9, c9, e9, h9.keep hg⟩)
      | 8 => exact (by obtain ⟨g9, e9, h9, h10⟩ := h; exact ⟨g9, e9, h9.keep hg, h10⟩)
      | n + 9 => trivial
    case rsteps =>
      simp only [List.take_succ_cons, List.take_zero]
      refine ⟨?_, ?_, ?_, ?_, ?_, ?_, ?_, ?_, ?_, trivial⟩
      · intro a x hA
        have t4 := hA.at_ 4 (by first | rfl | kernel_rfl) rfl
        refine step_value (w' := x) (v := .slice (some ⟨gx, ox, none⟩) bd.length cx) ?_ (Grows.refl _) ?_
        · go_simp
        · rfl
      · intro a x hA
        have t15 : a.tmps[15]?.getD undef = .slice (some ⟨gx, ox, none⟩) bd.length cx := hA.dep_ ⟨0, .data⟩ (by simp) _ 15 rfl rfl
        have hlx := hlen.out
        have hlx3 : (19 : Int) < (bd.length : Int) ∨ 19 = 19 := by omega
        have hne : ¬ bd = [] := by rintro rfl; simp at hlx
        have hl9 := hl19
        refine step_value (w' := x) (v := .pointer (some ⟨gx, ox, none⟩)) ?_ (Grows.refl _) rfl
        go_simp
      · intro a x hA
        have t16 : a.tmps[16]?.getD undef = .pointer (some ⟨gx, ox, none⟩) := hA.dep_ ⟨1, .data⟩ (by simp) _ 16 rfl rfl
        have g0 : x.cell? ⟨gx, ox, none⟩ = some (.int .u8 (u0 : Int)) := by rw [hA.grown.cell (World.block_lt_of_cell? W2 _ HC0.out)]; exact HC0.out
        refine step_value (w' := x) (v := .int .u8 (u0 : Int)) ?_ (Grows.refl _) rfl
        go_simp
      · intro a x hA
        have t17 : a.tmps[17]?.getD undef = .int .u8 (u0 : Int) := hA.dep_ ⟨2, .data⟩ (by simp) _ 17 rfl rfl
        have hu := hu0.out
        have hw : IntKind.i64.wrap (u0 : Int) = (u0 : Int) := IntWalk.i64_in _ (by omega)
        refine step_value (w' := x) (v := .int .i64 (u0 : Int)) ?_ (Grows.refl _) rfl
        go_simp
      · intro a x hA
        have t4 := hA.at_ 4 (by first | rfl | kernel_rfl) rfl
        refine step_value (w' := x) (v := .slice (some ⟨gx, ox, none⟩) bd.length cx) ?_ (Grows.refl _) ?_
        · go_simp
        · rfl
      · intro a x hA
        have t19 : a.tmps[19]?.getD undef = .slice (some ⟨gx, ox, none⟩) bd.length cx := hA.dep_ ⟨4, .data⟩ (by simp) _ 19 rfl rfl
        have hsl := HSL.out x
        refine step_value (w' := x) (v := .slice (sla (some ⟨gx, ox, none⟩) cx 19) (bd.length - 19) (cx - 19)) ?_ (Grows.refl _) rfl
        go_simp
      · intro a x hA
        have t20 : a.tmps[20]?.getD undef = .slice (sla (some ⟨gx, ox, none⟩) cx 19) (bd.length - 19) (cx - 19) := hA.dep_ ⟨5, .data⟩ (by simp) _ 20 rfl rfl
        have hs := Nat.le_trans HBW.out.size hA.grow.size
        have hbx := HSV.out.keep hA.grown
        refine step_call (f := 62) (args := #[.slice (sla (some ⟨gx, ox, none⟩) cx 19) (bd.length - 19) (cx - 19)]) (by clear hbx; go_simp) ((slices_Clone _ _ x hbx (by have := hdl.out; omega)).mono ?_)
        rintro e w' ⟨v, rfl, _, ho, hb⟩
        exact ⟨v, rfl, hb, ho.mono hs⟩
      · intro a x hA
        have t18 : a.tmps[18]?.getD undef = .int .i64 (u0 : Int) := hA.dep_ ⟨3, .data⟩ (by simp) _ 18 rfl rfl
        have t21 : Own8 x W.heap.size 5 (a.tmps[21]?.getD undef) dd := hA.dep_ ⟨6, .data⟩ (by simp) _ 21 rfl rfl
        obtain ⟨a9, c9, e9⟩ := t21.form
        rw [e9] at t21
        refine step_value (w' := x) (v := .agg #[.int .i64 (u0 : Int), .int .i64 0, .int .i64 0, .int .i64 0, .slice a9 dd.length c9]) ?_ (Grows.refl _) ⟨a9, c9, rfl, t21⟩
        clear t21
        go_simp
      · intro a x hA
        have hs := hA.grow.size
        refine step_value (w' := x.alloc (.cells #[.int .i64 0, .int .i64 0, .int .i64 0, .int .i64 0, .slice none 0 0] 48)) (v := .pointer (some ⟨x.heap.size, 0, none⟩)) ?_ (Grows.alloc _ _) ⟨_, rfl, Blk.new _ _ _, hs⟩
        go_simp
    case rfin =>
      intro y W' hg hV
      simp only [List.take_succ_cons, List.take_zero, AllVals] at hV
      obtain ⟨_, _, _, _, _, _, _, ub, ua, _⟩ := hV
      simp only [List.take_succ_cons, List.take_zero, List.drop_succ_cons, List.drop_zero, putAll, Act.put, List.setIfInBounds_toArray, List.set_cons_zero, List.set_cons_succ]
      obtain ⟨a9, c9, e9, o9⟩ := ub
      obtain ⟨g9, e10, k9, l9⟩ := ua
      rw [e9, e10]
      clear e9 e10
      have b2W : Below W2.heap.size W2 W' := Below.trans (below_of_drewN _ W2 1) hg
      have kR := HR.out.keep b2W
      clear hg
      have m0 := k9.cell (o := 0) rfl
      have f0 := k9.free 0
      have m1 := k9.cell (o := 1) rfl
      have f1 := k9.free 1
      have m2 := k9.cell (o := 2) rfl
      have f2 := k9.free 2
      have m3 := k9.cell (o := 3) rfl
      have f3 := k9.free 3
      have m4 := k9.cell (o := 4) rfl
      have f4 := k9.free 4
      obtain ⟨W5, hW5⟩ : ∃ W5, (((((W'.setCell ⟨g9, 0, none⟩ (.int .i64 (u0 : Int))).setCell ⟨g9, 1, none⟩ (.int .i64 0)).setCell ⟨g9, 2, none⟩ (.int .i64 0)).setCell ⟨g9, 3, none⟩ (.int .i64 0)).setCell ⟨g9, 4, none⟩ (.slice a9 dd.length c9)) = W5 := ⟨_, rfl⟩
      have x5 : Ext (fun b => b = g9) W' W5 := by rw [← hW5]; exact ((((((Ext.refl (fun b => b = g9) W').setCell (.inl rfl) _).setCell (.inl rfl) _).setCell (.inl rfl) _).setCell (.inl rfl) _).setCell (.inl rfl) _)
      have k5 := (((((k9.set (o := 0) (.int .i64 (u0 : Int))).set (o := 1) (.int .i64 0)).set (o := 2) (.int .i64 0)).set (o := 3) (.int .i64 0)).set (o := 4) (.slice a9 dd.length c9))
      rw [hW5] at k5
      simp only [List.setIfInBounds_toArray, List.set_cons_zero, List.set_cons_succ] at k5
      have hRg : W.heap.size ≠ g9 := by have := HR.out.lt; omega
      have kR := kR.ext x5 hRg
      have o5 : Own8 W5 W.heap.size 5 (.slice a9 dd.length c9) dd := own_set W' W5 g9 _ o9 k9 x5 (by decide)
      have b25 : Below W2.heap.size W2 W5 := b2W.trans (x5.belowOf b2W.size (fun b hb e => by have e2 : b = g9 := e; omega))
      obtain ⟨W6, hW6⟩ : ∃ W6, W5.alloc (.cells #[.pointer (some ⟨g9, 1, none⟩), .pointer (some ⟨g9, 2, none⟩), .pointer (some ⟨g9, 3, none⟩)] 141) = W6 := ⟨_, rfl⟩
      have b6 : Below W5.heap.size W5 W6 := by rw [← hW6]; exact (Below.refl _ W5).alloc (Nat.le_refl _) _
      have kp : Blk W6 W5.heap.size #[.pointer (some ⟨g9, 1, none⟩), .pointer (some ⟨g9, 2, none⟩), .pointer (some ⟨g9, 3, none⟩)] 141 := by rw [← hW6]; exact Blk.new W5 _ _
      have hg5 := k5.lt
      have k6 := k5.keep b6
      have kR := kR.keep b6
      have o6 := o5.keep b6
      have b26 := b25.trans (b6.mono b25.size)
      have bs6 := HV.out.keep b26
      have hvg : ∀ j, (Value.slice (some ⟨gx, ox, none⟩) bd.length cx).ownBlock = some j → j ≠ g9 := by
        intro j hj e
        have hlx := hlen.out
        have := bs_block HV.out (by rintro rfl; simp at hlx) j hj
        omega
      clear o9 k9 x5 b2W k5 o5 b25 b6
      go_wp2_with fail
      clear hW5 hW6 m0 f0 m1 f1 m2 f2 m3 f3 m4 f4
      refine (acc_numbers g9 W5.heap.size _ 1 _ _ _ _ bd W6 bs6 (by have := hlen.out; omega) hvg kp k6 (by omega) (by simp)).mono ?_
      rintro e W8 ⟨⟨x8, rfl⟩, k8, y8⟩
      obtain ⟨n1, h1⟩ : ∃ m, numOf ((bd.drop 1).take 6) = m := ⟨_, rfl⟩
      obtain ⟨n2, h2⟩ : ∃ m, numOf ((bd.drop 7).take 6) = m := ⟨_, rfl⟩
      obtain ⟨n3, h3⟩ : ∃ m, numOf ((bd.drop 13).take 6) = m := ⟨_, rfl⟩
      have HN1 := hid h1
      have HN2 := hid h2
      have HN3 := hid h3
      have k8 : Blk W8 g9 #[.int .i64 (u0 : Int), .int .i64 (n1 : Int), .int .i64 (n2 : Int), .int .i64 (n3 : Int), .slice a9 dd.length c9] 48 := by
        have e0 : num6 bd 1 0 = .int .i64 (n1 : Int) := by rw [← h1]; rfl
        have e1 : num6 bd 1 1 = .int .i64 (n2 : Int) := by rw [← h2]; rfl
        have e2 : num6 bd 1 2 = .int .i64 (n3 : Int) := by rw [← h3]; rfl
        have := k8
        simp only [fillN, e0, e1, e2] at this
        simpa using this
      have kR := kR.ext y8 hRg
      have o8 := own_set W6 W8 g9 _ o6 k6 y8 (by decide)
      have bW := (HBW.out.trans (b26.mono HBW.out.size)).trans (y8.belowOf (Nat.le_trans HBW.out.size b26.size) (fun b hb e => by have e2 : b = g9 := e; have := HBW.out.size; omega))
      have m0 := k8.cell (o := 0) rfl
      have m1 := k8.cell (o := 1) rfl
      have m2 := k8.cell (o := 2) rfl
      have m3 := k8.cell (o := 3) rfl
      have m4 := k8.cell (o := 4) rfl
      have hdl := hdl.out
      clear h1 h2 h3 o6 k6 y8 b26 bs6 kp
      go_wp2_with fail
      clear m0 m1 m2 m3 m4
      refine (acc_ask_right _ _ _ _ a9 dd.length c9 W8 (by omega)).mono ?_
      rintro e W9 ⟨rfl, b9⟩
      have kR := kR.keep b9
      have bW := bW.trans (b9.mono bW.size)
      have o9 := o8.keep b9
      have k9 := k8.keep b9
      clear b9 o8 k8
      cases hrb : askOk (u0 : Int) (n1 : Int) (n2 : Int) (n3 : Int) dd.length
      · have HP := hid (show ∀ e w', AskPost W l e w' = (e = .returned (.tuple #[.agg #[.int .i64 0, .int .i64 0, .int .i64 0, .int .i64 0, .slice none 0 0], .int .i64 22]) ∧ Below W.heap.size W w') from fun e w' => by
          have h1 : numOf (bd.take 1) = u0 := H1.out
          have h2 : numOf ((bd.drop 1).take 6) = n1 := HN1.out
          have h3 : numOf ((bd.drop 7).take 6) = n2 := HN2.out
          have h4 : numOf ((bd.drop 13).take 6) = n3 := HN3.out
          unfold AskPost; rw [getAsk_eq Hb.out h1 h2 h3 h4 Hdd.out, if_neg (by rw [hrb]; decide)])
        clear hrb k9 o9
        have m0 := kR.cell (o := 0) rfl
        have f0 := kR.free 0
        have m1 := kR.cell (o := 1) rfl
        have f1 := kR.free 1
        have m2 := kR.cell (o := 2) rfl
        have f2 := kR.free 2
        have m3 := kR.cell (o := 3) rfl
        have f3 := kR.free 3
        have m4 := kR.cell (o := 4) rfl
        have f4 := kR.free 4
        obtain ⟨W5, hW5⟩ : ∃ W5, (((((W9.setCell ⟨W.heap.size, 0, none⟩ (.int .i64 0)).setCell ⟨W.heap.size, 1, none⟩ (.int .i64 0)).setCell ⟨W.heap.size, 2, none⟩ (.int .i64 0)).setCell ⟨W.heap.size, 3, none⟩ (.int .i64 0)).setCell ⟨W.heap.size, 4, none⟩ (.slice none 0 0)) = W5 := ⟨_, rfl⟩
        have k5 := (((((kR.set (o := 0) (.int .i64 0)).set (o := 1) (.int .i64 0)).set (o := 2) (.int .i64 0)).set (o := 3) (.int .i64 0)).set (o := 4) (.slice none 0 0))
        rw [hW5] at k5
        simp only [List.setIfInBounds_toArray, List.set_cons_zero, List.set_cons_succ] at k5
        have b5 : Below W.heap.size W W5 := by rw [← hW5]; exact (((((bW.setCell (p := ⟨W.heap.size, 0, none⟩) (by simp) _).setCell (p := ⟨W.heap.size, 1, none⟩) (by simp) _).setCell (p := ⟨W.heap.size, 2, none⟩) (by simp) _).setCell (p := ⟨W.heap.size, 3, none⟩) (by simp) _).setCell (p := ⟨W.heap.size, 4, none⟩) (by simp) _)
        have HH := hid (And.intro k5 b5)
        have HW := hid hW5
        clear k5 b5 kR bW hW5
        go_wp2_with fail
        rw [HW.out]
        have hld := run_loadVar_row (P := Tryz.prog) W5 W.heap.size 48 48 _ (0, 0) _ HH.out.1 Tryz.underlying48 rfl size_ask
        refine bodyPost_ret (v := .tuple #[.agg #[.int .i64 0, .int .i64 0, .int .i64 0, .int .i64 0, .slice none 0 0], .int .i64 22]) ?_ rfl ?_
        · simp [results, Tryz.results64, hld, asAddr]
        · rw [HP.out]; exact ⟨rfl, HH.out.2⟩
      · have HP := hid (show ∀ e w', AskPost W l e w' = (∃ v, e = .returned (.tuple #[.agg #[.int .i64 (u0 : Int), .int .i64 (n1 : Int), .int .i64 (n2 : Int), .int .i64 (n3 : Int), v], .int .i64 0]) ∧ Own8 w' W.heap.size 5 v dd ∧ Below W.heap.size W w') from fun e w' => by
          have h1 : numOf (bd.take 1) = u0 := H1.out
          have h2 : numOf ((bd.drop 1).take 6) = n1 := HN1.out
          have h3 : numOf ((bd.drop 7).take 6) = n2 := HN2.out
          have h4 : numOf ((bd.drop 13).take 6) = n3 := HN3.out
          unfold AskPost; rw [getAsk_eq Hb.out h1 h2 h3 h4 Hdd.out, if_pos hrb])
        clear hrb
        have m0 := k9.cell (o := 0) rfl
        have m1 := k9.cell (o := 1) rfl
        have m2 := k9.cell (o := 2) rfl
        have m3 := k9.cell (o := 3) rfl
        have m4 := k9.cell (o := 4) rfl
        have r0 := kR.cell (o := 0) rfl
        have f0 := kR.free 0
        have r1 := kR.cell (o := 1) rfl
        have f1 := kR.free 1
        have r2 := kR.cell (o := 2) rfl
        have f2 := kR.free 2
        have r3 := kR.cell (o := 3) rfl
        have f3 := kR.free 3
        have r4 := kR.cell (o := 4) rfl
        have f4 := kR.free 4
        obtain ⟨W7, hW7⟩ : ∃ W7, (((((W9.setCell ⟨W.heap.size, 0, none⟩ (.int .i64 (u0 : Int))).setCell ⟨W.heap.size, 1, none⟩ (.int .i64 (n1 : Int))).setCell ⟨W.heap.size, 2, none⟩ (.int .i64 (n2 : Int))).setCell ⟨W.heap.size, 3, none⟩ (.int .i64 (n3 : Int))).setCell ⟨W.heap.size, 4, none⟩ (.slice a9 dd.length c9)) = W7 := ⟨_, rfl⟩
        have k7 := (((((kR.set (o := 0) (.int .i64 (u0 : Int))).set (o := 1) (.int .i64 (n1 : Int))).set (o := 2) (.int .i64 (n2 : Int))).set (o := 3) (.int .i64 (n3 : Int))).set (o := 4) (.slice a9 dd.length c9))
        rw [hW7] at k7
        simp only [List.setIfInBounds_toArray, List.set_cons_zero, List.set_cons_succ] at k7
        have x7 : Ext (fun b => b = W.heap.size) W9 W7 := by rw [← hW7]; exact ((((((Ext.refl (fun b => b = W.heap.size) W9).setCell (.inl rfl) _).setCell (.inl rfl) _).setCell (.inl rfl) _).setCell (.inl rfl) _).setCell (.inl rfl) _)
        have o7 := own_set W9 W7 W.heap.size _ o9 kR x7 (by decide)
        have b7 : Below W.heap.size W W7 := bW.trans (x7.belowOf bW.size (fun b hb e => by have e2 : b = W.heap.size := e; omega))
        have HH := hid (And.intro k7 (And.intro o7 b7))
        have HW7 := hid hW7
        clear k7 o7 b7 x7 o9 k9 kR bW hW7
        go_wp2_with fail
        rw [HW7.out]
        have hld := run_loadVar_row (P := Tryz.prog) W7 W.heap.size 48 48 _ (0, 0) _ HH.out.1 Tryz.underlying48 rfl size_ask
        refine bodyPost_ret (v := .tuple #[.agg #[.int .i64 (u0 : Int), .int .i64 (n1 : Int), .int .i64 (n2 : Int), .int .i64 (n3 : Int), .slice a9 dd.length c9], .int .i64 0]) ?_ rfl ?_
        · simp [results, Tryz.results64, hld, asAddr]
        · rw [HP.out]; exact ⟨_, rfl, HH.out.2.1, HH.out.2.2⟩

set_option maxRecDepth 100000 in
set_option maxHeartbeats 6400000 in
theorem acc_GetAnswer (v : Value) (l : List UInt8) (W : World) (hv : Bs W v l) (hl : l.length ≤ 1073741824) :
    Calls Tryz.prog 35 #[v] W (AnsPost W l) := by
  obtain ⟨a0, c0, rfl⟩ := hv.form
  have b1 : Below W.heap.size W (W.alloc (.cells #[.int .i64 0, .int .i64 0, .int .i64 0, .int .i64 0, .bool false, .slice none 0 0] 44)) := (Below.refl _ W).alloc (Nat.le_refl _) _
  have kR := Blk.new W #[.int .i64 0, .int .i64 0, .int .i64 0, .int .i64 0, .bool false, .slice none 0 0] 44
  have hbd := acc_body _ l (W.alloc (.cells #[.int .i64 0, .int .i64 0, .int .i64 0, .int .i64 0, .bool false, .slice none 0 0] 44)) (hv.keep b1) hl 4 20 (by omega) (by omega)
  have HB := hid hbd
  clear hbd hv
  go_enter Tryz.func35, Tryz.ntmps35
  go_wp2_with fail
  refine HB.out.mono ?_
  intro e W2 hpost
  clear HB
  unfold BodyPost at hpost
  cases hb : bodyF l 4 20 with
  | none =>
    rw [hb] at hpost
    obtain ⟨v2, rfl, b2⟩ := hpost
    have HP := hid (show ∀ e w', AnsPost W l e w' = (e = .returned (.tuple #[.agg #[.int .i64 0, .int .i64 0, .int .i64 0, .int .i64 0, .bool false, .slice none 0 0], .int .i64 22]) ∧ Below W.heap.size W w') from fun e w' => by unfold AnsPost getAns; rw [hb])
    have kR := kR.keep b2
    have bW := b1.trans (b2.mono b1.size)
    clear hb b1 b2
    have m0 := kR.cell (o := 0) rfl
    have f0 := kR.free 0
    have m1 := kR.cell (o := 1) rfl
    have f1 := kR.free 1
    have m2 := kR.cell (o := 2) rfl
    have f2 := kR.free 2
    have m3 := kR.cell (o := 3) rfl
    have f3 := kR.free 3
    have m4 := kR.cell (o := 4) rfl
    have f4 := kR.free 4
    have m5 := kR.cell (o := 5) rfl
    have f5 := kR.free 5
    obtain ⟨W5, hW5⟩ : ∃ W5, ((((((W2.setCell ⟨W.heap.size, 0, none⟩ (.int .i64 0)).setCell ⟨W.heap.size, 1, none⟩ (.int .i64 0)).setCell ⟨W.heap.size, 2, none⟩ (.int .i64 0)).setCell ⟨W.heap.size, 3, none⟩ (.int .i64 0)).setCell ⟨W.heap.size, 4, none⟩ (.bool false)).setCell ⟨W.heap.size, 5, none⟩ (.slice none 0 0)) = W5 := ⟨_, rfl⟩
    have k5 := ((((((kR.set (o := 0) (.int .i64 0)).set (o := 1) (.int .i64 0)).set (o := 2) (.int .i64 0)).set (o := 3) (.int .i64 0)).set (o := 4) (.bool false)).set (o := 5) (.slice none 0 0))
    rw [hW5] at k5
    simp only [List.setIfInBounds_toArray, List.set_cons_zero, List.set_cons_succ] at k5
    have b5 : Below W.heap.size W W5 := by rw [← hW5]; exact ((((((bW.setCell (p := ⟨W.heap.size, 0, none⟩) (by simp) _).setCell (p := ⟨W.heap.size, 1, none⟩) (by simp) _).setCell (p := ⟨W.heap.size, 2, none⟩) (by simp) _).setCell (p := ⟨W.heap.size, 3, none⟩) (by simp) _).setCell (p := ⟨W.heap.size, 4, none⟩) (by simp) _).setCell (p := ⟨W.heap.size, 5, none⟩) (by simp) _)
    have HH := hid (And.intro k5 b5)
    have HW := hid hW5
    clear k5 b5 kR bW hW5
    go_wp2_with fail
    rw [HW.out]
    have hld := run_loadVar_row (P := Tryz.prog) W5 W.heap.size 44 44 _ (0, 0) _ HH.out.1 Tryz.underlying44 rfl size_ans
    refine bodyPost_ret (v := .tuple #[.agg #[.int .i64 0, .int .i64 0, .int .i64 0, .int .i64 0, .bool false, .slice none 0 0], .int .i64 22]) ?_ rfl ?_
    · simp [results, Tryz.results35, hld, asAddr]
    · rw [HP.out]; exact ⟨rfl, HH.out.2⟩
  | some bd =>
    rw [hb] at hpost
    obtain ⟨v2, rfl, o2, b2⟩ := hpost
    have hbl := bodyF_len hb
    have bW := b1.trans (b2.mono b1.size)
    have kR := kR.keep b2
    rcases o2.bs.cases with ⟨_, h0⟩ | ⟨gx, ox, cx, rfl, hcx, hmx, hrx⟩ | ⟨h0, _⟩
    · rw [h0] at hbl; simp at hbl
    rotate_left
    · rw [h0] at hbl; simp at hbl
    have hlen := hid hbl
    obtain ⟨y0, hy0⟩ : ∃ y, bd[0]? = some y := ⟨bd[0], by simp⟩
    have hc0 := hrx 0 _ hy0
    have hn1 := num_one hy0
    have hlt0 := y0.toNat_lt
    obtain ⟨y3, hy3⟩ : ∃ y, bd[19]? = some y := ⟨bd[19], by simp⟩
    have hc3 := hrx 19 _ hy3
    have hn3 := num_one hy3
    have hlt3 := y3.toNat_lt
    unfold bv at hc0 hc3
    generalize y0.toNat = u0 at *
    generalize y3.toNat = u3 at *
    rw [Nat.add_zero] at hc0
    clear hy0 hy3 hrx b1 b2
    have hl19 : (19 : Int) < (bd.length : Int) := by omega
    by_cases hle : u3 ≤ 1
    · have hd9 : decide ((u3 : Int) > 1) = false := decide_eq_false (by omega)
      obtain ⟨slb, hsd⟩ : ∃ b, decide (u3 = 1) = b := ⟨_, rfl⟩
      have HSB := hid (show ((u3 : Int) == 1) = slb by rw [← hsd]; by_cases h : u3 = 1 <;> simp [h] <;> omega)
      have HSD := hid hsd
      have HLE := hid hle
      have hu0 := hid hlt0
      have HC0 := hid hc0
      have HC3 := hid hc3
      have H1 := hid hn1
      have H3 := hid hn3
      have HBW := hid bW
      have HR := hid kR
      have HV := hid o2.bs
      have Hb := hid hb
      have HSL := hid (fun (w : World) => run_slice_from (P := Tryz.prog) Tryz.underlying30 szu8 (some ⟨gx, ox, none⟩) bd.length cx 20 (by omega) (by omega) w)
      obtain ⟨dd, hdd⟩ : ∃ dd, bd.drop 20 = dd := ⟨_, rfl⟩
      have HSV := hid (hdd ▸ bs_from o2.bs 20 hbl.1)
      have hdl := hid (show dd.length ≤ 65536 by rw [← hdd]; simp; omega)
      have Hdd := hid hdd
      clear hdd hsd hn1 hn3 hc0 hlt0 bW kR o2 hb hle hbl
      go_wp2_with fail
      clear hc3 hd9
      refine wp_region_tail 13 rfl Grows (fun i v x => match i with
          | 0 => v = .slice (some ⟨gx, ox, none⟩) bd.length cx
          | 1 => v = .pointer (some ⟨gx, ox, none⟩)
          | 2 => v = .int .u8 (u0 : Int)
          | 3 => v = .int .i64 (u0 : Int)
          | 4 => v = .slice (some ⟨gx, ox, none⟩) bd.length cx
          | 5 => v = .pointer (some ⟨gx, ox + 19, none⟩)
          | 6 => v = .int .u8 (u3 : Int)
          | 7 => v = .bool slb
          | 8 => v = .slice (some ⟨gx, ox, none⟩) bd.length cx
          | 9 => v = .slice (sla (some ⟨gx, ox, none⟩) cx 20) (bd.length - 20) (cx - 20)
          | 10 => Own8 x W.heap.size 5 v dd
          | 11 => ∃ a9 c9, v = .agg #[.int .i64 (u0 : Int), .int .i64 0, .int .i64 0, .int .i64 0, .bool slb, .slice a9 dd.length c9] ∧ Own8 x W.heap.size 5 (.slice a9 dd.length c9) dd
          | 12 => ∃ g, v = .pointer (some ⟨g, 0, none⟩) ∧ Blk x g #[.int .i64 0, .int .i64 0, .int .i64 0, .int .i64 0, .bool false, .slice none 0 0] 44 ∧ W2.heap.size ≤ g
          | _ => True) (by kernel_rfl) (Grows.refl _) Grows.trans ?rstab ?rsteps ?rfin
      case rstab =>
        intro i v x y hg h
        match i with
        | 0 | 1 | 2 | 3 | 4 | 5 | 6 | 7 | 8 | 9 => exact h
        | 10 => exact Own8.keep h hg
        | 11 => exact (by obtain ⟨a9, c9, e9, h9⟩ := h; exact ⟨a9, c9, e9, h9.keep hg⟩)
        | 12 => exact (by obtain ⟨g9, e9, h9, h10⟩ := h; exact ⟨g9, e9, h9.keep hg, h10⟩)
        | n + 13 => trivial
      case rsteps =>
        simp only [List.take_succ_cons, List.take_zero]
        refine ⟨?_, ?_, ?_, ?_, ?_, ?_, ?_, ?_, ?_, ?_, ?_, ?_, ?_, trivial⟩
        · intro a x hA
          have t4 := hA.at_ 4 (by first | rfl | kernel_rfl) rfl
          refine step_value (w' := x) (v := .slice (some ⟨gx, ox, none⟩) bd.length cx) ?_ (Grows.refl _) ?_
          · go_simp
          · rfl
        · intro a x hA
          have t21 : a.tmps[21]?.getD undef = .slice (some ⟨gx, ox, none⟩) bd.length cx := hA.dep_ ⟨0, .data⟩ (by simp) _ 21 rfl rfl
          have hlx := hlen.out
          have hlx3 : (19 : Int) < (bd.length : Int) ∨ 20 = 19 := by omega
          have hne : ¬ bd = [] := by rintro rfl; simp at hlx
          have hl9 := hl19
          refine step_value (w' := x) (v := .pointer (some ⟨gx, ox, none⟩)) ?_ (Grows.refl _) rfl
          go_simp
        · intro a x hA
          have t22 : a.tmps[22]?.getD undef = .pointer (some ⟨gx, ox, none⟩) := hA.dep_ ⟨1, .data⟩ (by simp) _ 22 rfl rfl
          have g0 : x.cell? ⟨gx, ox, none⟩ = some (.int .u8 (u0 : Int)) := by rw [hA.grown.cell (World.block_lt_of_cell? W2 _ HC0.out)]; exact HC0.out
          refine step_value (w' := x) (v := .int .u8 (u0 : Int)) ?_ (Grows.refl _) rfl
          go_simp
        · intro a x hA
          have t23 : a.tmps[23]?.getD undef = .int .u8 (u0 : Int) := hA.dep_ ⟨2, .data⟩ (by simp) _ 23 rfl rfl
          have hu := hu0.out
          have hw : IntKind.i64.wrap (u0 : Int) = (u0 : Int) := IntWalk.i64_in _ (by omega)
          refine step_value (w' := x) (v := .int .i64 (u0 : Int)) ?_ (Grows.refl _) rfl
          go_simp
        · intro a x hA
          have t4 := hA.at_ 4 (by first | rfl | kernel_rfl) rfl
          refine step_value (w' := x) (v := .slice (some ⟨gx, ox, none⟩) bd.length cx) ?_ (Grows.refl _) ?_
          · go_simp
          · rfl
        · intro a x hA
          have t25 : a.tmps[25]?.getD undef = .slice (some ⟨gx, ox, none⟩) bd.length cx := hA.dep_ ⟨4, .data⟩ (by simp) _ 25 rfl rfl
          have hlx := hlen.out
          have hlx3 : (19 : Int) < (bd.length : Int) ∨ 20 = 19 := by omega
          have hne : ¬ bd = [] := by rintro rfl; simp at hlx
          have hl9 := hl19
          refine step_value (w' := x) (v := .pointer (some ⟨gx, ox + 19, none⟩)) ?_ (Grows.refl _) rfl
          go_simp
        · intro a x hA
          have t26 : a.tmps[26]?.getD undef = .pointer (some ⟨gx, ox + 19, none⟩) := hA.dep_ ⟨5, .data⟩ (by simp) _ 26 rfl rfl
          have g0 : x.cell? ⟨gx, ox + 19, none⟩ = some (.int .u8 (u3 : Int)) := by rw [hA.grown.cell (World.block_lt_of_cell? W2 _ HC3.out)]; exact HC3.out
          refine step_value (w' := x) (v := .int .u8 (u3 : Int)) ?_ (Grows.refl _) rfl
          go_simp
        · intro a x hA
          have t27 : a.tmps[27]?.getD undef = .int .u8 (u3 : Int) := hA.dep_ ⟨6, .data⟩ (by simp) _ 27 rfl rfl
          have hsb := HSB.out
          refine step_value (w' := x) (v := .bool slb) ?_ (Grows.refl _) rfl
          go_simp
        · intro a x hA
          have t4 := hA.at_ 4 (by first | rfl | kernel_rfl) rfl
          refine step_value (w' := x) (v := .slice (some ⟨gx, ox, none⟩) bd.length cx) ?_ (Grows.refl _) ?_
          · go_simp
          · rfl
        · intro a x hA
          have t29 : a.tmps[29]?.getD undef = .slice (some ⟨gx, ox, none⟩) bd.length cx := hA.dep_ ⟨8, .data⟩ (by simp) _ 29 rfl rfl
          have hsl := HSL.out x
          refine step_value (w' := x) (v := .slice (sla (some ⟨gx, ox, none⟩) cx 20) (bd.length - 20) (cx - 20)) ?_ (Grows.refl _) rfl
          go_simp
        · intro a x hA
          have t30 : a.tmps[30]?.getD undef = .slice (sla (some ⟨gx, ox, none⟩) cx 20) (bd.length - 20) (cx - 20) := hA.dep_ ⟨9, .data⟩ (by simp) _ 30 rfl rfl
          have hs := Nat.le_trans HBW.out.size hA.grow.size
          have hbx := HSV.out.keep hA.grown
          refine step_call (f := 62) (args := #[.slice (sla (some ⟨gx, ox, none⟩) cx 20) (bd.length - 20) (cx - 20)]) (by clear hbx; go_simp) ((slices_Clone _ _ x hbx (by have := hdl.out; omega)).mono ?_)
          rintro e w' ⟨v, rfl, _, ho, hb⟩
          exact ⟨v, rfl, hb, ho.mono hs⟩
        · intro a x hA
          have t24 : a.tmps[24]?.getD undef = .int .i64 (u0 : Int) := hA.dep_ ⟨3, .data⟩ (by simp) _ 24 rfl rfl
          have t28 : a.tmps[28]?.getD undef = .bool slb := hA.dep_ ⟨7, .data⟩ (by simp) _ 28 rfl rfl
          have t31 : Own8 x W.heap.size 5 (a.tmps[31]?.getD undef) dd := hA.dep_ ⟨10, .data⟩ (by simp) _ 31 rfl rfl
          obtain ⟨a9, c9, e9⟩ := t31.form
          rw [e9] at t31
          refine step_value (w' := x) (v := .agg #[.int .i64 (u0 : Int), .int .i64 0, .int .i64 0, .int .i64 0, .bool slb, .slice a9 dd.length c9]) ?_ (Grows.refl _) ⟨a9, c9, rfl, t31⟩
          clear t31
          go_simp
        · intro a x hA
          have hs := hA.grow.size
          refine step_value (w' := x.alloc (.cells #[.int .i64 0, .int .i64 0, .int .i64 0, .int .i64 0, .bool false, .slice none 0 0] 44)) (v := .pointer (some ⟨x.heap.size, 0, none⟩)) ?_ (Grows.alloc _ _) ⟨_, rfl, Blk.new _ _ _, hs⟩
          go_simp
      case rfin =>
        intro y W' hg hV
        simp only [List.take_succ_cons, List.take_zero, AllVals] at hV
        obtain ⟨_, _, _, _, _, _, _, _, _, _, _, ub, ua, _⟩ := hV
        simp only [List.take_succ_cons, List.take_zero, List.drop_succ_cons, List.drop_zero, putAll, Act.put, List.setIfInBounds_toArray, List.set_cons_zero, List.set_cons_succ]
        obtain ⟨a9, c9, e9, o9⟩ := ub
        obtain ⟨g9, e10, k9, l9⟩ := ua
        rw [e9, e10]
        clear e9 e10
        have b2W : Below W2.heap.size W2 W' := Below.trans (below_of_drewN _ W2 1) hg
        have kR := HR.out.keep b2W
        clear hg
        have m0 := k9.cell (o := 0) rfl
        have f0 := k9.free 0
        have m1 := k9.cell (o := 1) rfl
        have f1 := k9.free 1
        have m2 := k9.cell (o := 2) rfl
        have f2 := k9.free 2
        have m3 := k9.cell (o := 3) rfl
        have f3 := k9.free 3
        have m4 := k9.cell (o := 4) rfl
        have f4 := k9.free 4
        have m5 := k9.cell (o := 5) rfl
        have f5 := k9.free 5
        obtain ⟨W5, hW5⟩ : ∃ W5, ((((((W'.setCell ⟨g9, 0, none⟩ (.int .i64 (u0 : Int))).setCell ⟨g9, 1, none⟩ (.int .i64 0)).setCell ⟨g9, 2, none⟩ (.int .i64 0)).setCell ⟨g9, 3, none⟩ (.int .i64 0)).setCell ⟨g9, 4, none⟩ (.bool slb)).setCell ⟨g9, 5, none⟩ (.slice a9 dd.length c9)) = W5 := ⟨_, rfl⟩
        have x5 : Ext (fun b => b = g9) W' W5 := by rw [← hW5]; exact (((((((Ext.refl (fun b => b = g9) W').setCell (.inl rfl) _).setCell (.inl rfl) _).setCell (.inl rfl) _).setCell (.inl rfl) _).setCell (.inl rfl) _).setCell (.inl rfl) _)
        have k5 := ((((((k9.set (o := 0) (.int .i64 (u0 : Int))).set (o := 1) (.int .i64 0)).set (o := 2) (.int .i64 0)).set (o := 3) (.int .i64 0)).set (o := 4) (.bool slb)).set (o := 5) (.slice a9 dd.length c9))
        rw [hW5] at k5
        simp only [List.setIfInBounds_toArray, List.set_cons_zero, List.set_cons_succ] at k5
        have hRg : W.heap.size ≠ g9 := by have := HR.out.lt; omega
        have kR := kR.ext x5 hRg
        have o5 : Own8 W5 W.heap.size 5 (.slice a9 dd.length c9) dd := own_set W' W5 g9 _ o9 k9 x5 (by decide)
        have b25 : Below W2.heap.size W2 W5 := b2W.trans (x5.belowOf b2W.size (fun b hb e => by have e2 : b = g9 := e; omega))
        obtain ⟨W6, hW6⟩ : ∃ W6, W5.alloc (.cells #[.pointer (some ⟨g9, 1, none⟩), .pointer (some ⟨g9, 2, none⟩), .pointer (some ⟨g9, 3, none⟩)] 141) = W6 := ⟨_, rfl⟩
        have b6 : Below W5.heap.size W5 W6 := by rw [← hW6]; exact (Below.refl _ W5).alloc (Nat.le_refl _) _
        have kp : Blk W6 W5.heap.size #[.pointer (some ⟨g9, 1, none⟩), .pointer (some ⟨g9, 2, none⟩), .pointer (some ⟨g9, 3, none⟩)] 141 := by rw [← hW6]; exact Blk.new W5 _ _
        have hg5 := k5.lt
        have k6 := k5.keep b6
        have kR := kR.keep b6
        have o6 := o5.keep b6
        have b26 := b25.trans (b6.mono b25.size)
        have bs6 := HV.out.keep b26
        have hvg : ∀ j, (Value.slice (some ⟨gx, ox, none⟩) bd.length cx).ownBlock = some j → j ≠ g9 := by
          intro j hj e
          have hlx := hlen.out
          have := bs_block HV.out (by rintro rfl; simp at hlx) j hj
          omega
        clear o9 k9 x5 b2W k5 o5 b25 b6
        go_wp2_with fail
        clear hW5 hW6 m0 f0 m1 f1 m2 f2 m3 f3 m4 f4 m5 f5
        refine (acc_numbers g9 W5.heap.size _ 1 _ _ _ _ bd W6 bs6 (by have := hlen.out; omega) hvg kp k6 (by omega) (by simp)).mono ?_
        rintro e W8 ⟨⟨x8, rfl⟩, k8, y8⟩
        obtain ⟨n1, h1⟩ : ∃ m, numOf ((bd.drop 1).take 6) = m := ⟨_, rfl⟩
        obtain ⟨n2, h2⟩ : ∃ m, numOf ((bd.drop 7).take 6) = m := ⟨_, rfl⟩
        obtain ⟨n3, h3⟩ : ∃ m, numOf ((bd.drop 13).take 6) = m := ⟨_, rfl⟩
        have HN1 := hid h1
        have HN2 := hid h2
        have HN3 := hid h3
        have k8 : Blk W8 g9 #[.int .i64 (u0 : Int), .int .i64 (n1 : Int), .int .i64 (n2 : Int), .int .i64 (n3 : Int), .bool slb, .slice a9 dd.length c9] 44 := by
          have e0 : num6 bd 1 0 = .int .i64 (n1 : Int) := by rw [← h1]; rfl
          have e1 : num6 bd 1 1 = .int .i64 (n2 : Int) := by rw [← h2]; rfl
          have e2 : num6 bd 1 2 = .int .i64 (n3 : Int) := by rw [← h3]; rfl
          have := k8
          simp only [fillN, e0, e1, e2] at this
          simpa using this
        have kR := kR.ext y8 hRg
        have o8 := own_set W6 W8 g9 _ o6 k6 y8 (by decide)
        have bW := (HBW.out.trans (b26.mono HBW.out.size)).trans (y8.belowOf (Nat.le_trans HBW.out.size b26.size) (fun b hb e => by have e2 : b = g9 := e; have := HBW.out.size; omega))
        have m0 := k8.cell (o := 0) rfl
        have m1 := k8.cell (o := 1) rfl
        have m2 := k8.cell (o := 2) rfl
        have m3 := k8.cell (o := 3) rfl
        have m4 := k8.cell (o := 4) rfl
        have m5 := k8.cell (o := 5) rfl
        have hdl := hdl.out
        clear h1 h2 h3 o6 k6 y8 b26 bs6 kp
        go_wp2_with fail
        clear m0 m1 m2 m3 m4 m5
        refine (acc_ans_right _ _ _ _ _ a9 dd.length c9 W8 (by omega)).mono ?_
        rintro e W9 ⟨rfl, b9⟩
        have kR := kR.keep b9
        have bW := bW.trans (b9.mono bW.size)
        have o9 := o8.keep b9
        have k9 := k8.keep b9
        clear b9 o8 k8
        cases hrb : ansOk (u0 : Int) (n1 : Int) (n2 : Int) (n3 : Int) dd.length
        · have HP := hid (show ∀ e w', AnsPost W l e w' = (e = .returned (.tuple #[.agg #[.int .i64 0, .int .i64 0, .int .i64 0, .int .i64 0, .bool false, .slice none 0 0], .int .i64 22]) ∧ Below W.heap.size W w') from fun e w' => by
            have h1 : numOf (bd.take 1) = u0 := H1.out
            have h2 : numOf ((bd.drop 1).take 6) = n1 := HN1.out
            have h3 : numOf ((bd.drop 7).take 6) = n2 := HN2.out
            have h4 : numOf ((bd.drop 13).take 6) = n3 := HN3.out
            have h5 : numOf ((bd.drop 19).take 1) = u3 := H3.out
            have h6 : decide (u3 = 1) = slb := HSD.out
            unfold AnsPost; rw [getAns_eq Hb.out h1 h2 h3 h4 h5 h6 HLE.out Hdd.out, if_neg (by rw [hrb]; decide)])
          clear hrb k9 o9
          have m0 := kR.cell (o := 0) rfl
          have f0 := kR.free 0
          have m1 := kR.cell (o := 1) rfl
          have f1 := kR.free 1
          have m2 := kR.cell (o := 2) rfl
          have f2 := kR.free 2
          have m3 := kR.cell (o := 3) rfl
          have f3 := kR.free 3
          have m4 := kR.cell (o := 4) rfl
          have f4 := kR.free 4
          have m5 := kR.cell (o := 5) rfl
          have f5 := kR.free 5
          obtain ⟨W5, hW5⟩ : ∃ W5, ((((((W9.setCell ⟨W.heap.size, 0, none⟩ (.int .i64 0)).setCell ⟨W.heap.size, 1, none⟩ (.int .i64 0)).setCell ⟨W.heap.size, 2, none⟩ (.int .i64 0)).setCell ⟨W.heap.size, 3, none⟩ (.int .i64 0)).setCell ⟨W.heap.size, 4, none⟩ (.bool false)).setCell ⟨W.heap.size, 5, none⟩ (.slice none 0 0)) = W5 := ⟨_, rfl⟩
          have k5 := ((((((kR.set (o := 0) (.int .i64 0)).set (o := 1) (.int .i64 0)).set (o := 2) (.int .i64 0)).set (o := 3) (.int .i64 0)).set (o := 4) (.bool false)).set (o := 5) (.slice none 0 0))
          rw [hW5] at k5
          simp only [List.setIfInBounds_toArray, List.set_cons_zero, List.set_cons_succ] at k5
          have b5 : Below W.heap.size W W5 := by rw [← hW5]; exact ((((((bW.setCell (p := ⟨W.heap.size, 0, none⟩) (by simp) _).setCell (p := ⟨W.heap.size, 1, none⟩) (by simp) _).setCell (p := ⟨W.heap.size, 2, none⟩) (by simp) _).setCell (p := ⟨W.heap.size, 3, none⟩) (by simp) _).setCell (p := ⟨W.heap.size, 4, none⟩) (by simp) _).setCell (p := ⟨W.heap.size, 5, none⟩) (by simp) _)
          have HH := hid (And.intro k5 b5)
          have HW := hid hW5
          clear k5 b5 kR bW hW5
          go_wp2_with fail
          rw [HW.out]
          have hld := run_loadVar_row (P := Tryz.prog) W5 W.heap.size 44 44 _ (0, 0) _ HH.out.1 Tryz.underlying44 rfl size_ans
          refine bodyPost_ret (v := .tuple #[.agg #[.int .i64 0, .int .i64 0, .int .i64 0, .int .i64 0, .bool false, .slice none 0 0], .int .i64 22]) ?_ rfl ?_
          · simp [results, Tryz.results35, hld, asAddr]
          · rw [HP.out]; exact ⟨rfl, HH.out.2⟩
        · have HP := hid (show ∀ e w', AnsPost W l e w' = (∃ v, e = .returned (.tuple #[.agg #[.int .i64 (u0 : Int), .int .i64 (n1 : Int), .int .i64 (n2 : Int), .int .i64 (n3 : Int), .bool slb, v], .int .i64 0]) ∧ Own8 w' W.heap.size 5 v dd ∧ Below W.heap.size W w') from fun e w' => by
            have h1 : numOf (bd.take 1) = u0 := H1.out
            have h2 : numOf ((bd.drop 1).take 6) = n1 := HN1.out
            have h3 : numOf ((bd.drop 7).take 6) = n2 := HN2.out
            have h4 : numOf ((bd.drop 13).take 6) = n3 := HN3.out
            have h5 : numOf ((bd.drop 19).take 1) = u3 := H3.out
            have h6 : decide (u3 = 1) = slb := HSD.out
            unfold AnsPost; rw [getAns_eq Hb.out h1 h2 h3 h4 h5 h6 HLE.out Hdd.out, if_pos hrb])
          clear hrb
          have m0 := k9.cell (o := 0) rfl
          have m1 := k9.cell (o := 1) rfl
          have m2 := k9.cell (o := 2) rfl
          have m3 := k9.cell (o := 3) rfl
          have m4 := k9.cell (o := 4) rfl
          have m5 := k9.cell (o := 5) rfl
          have r0 := kR.cell (o := 0) rfl
          have f0 := kR.free 0
          have r1 := kR.cell (o := 1) rfl
          have f1 := kR.free 1
          have r2 := kR.cell (o := 2) rfl
          have f2 := kR.free 2
          have r3 := kR.cell (o := 3) rfl
          have f3 := kR.free 3
          have r4 := kR.cell (o := 4) rfl
          have f4 := kR.free 4
          have r5 := kR.cell (o := 5) rfl
          have f5 := kR.free 5
          obtain ⟨W7, hW7⟩ : ∃ W7, ((((((W9.setCell ⟨W.heap.size, 0, none⟩ (.int .i64 (u0 : Int))).setCell ⟨W.heap.size, 1, none⟩ (.int .i64 (n1 : Int))).setCell ⟨W.heap.size, 2, none⟩ (.int .i64 (n2 : Int))).setCell ⟨W.heap.size, 3, none⟩ (.int .i64 (n3 : Int))).setCell ⟨W.heap.size, 4, none⟩ (.bool slb)).setCell ⟨W.heap.size, 5, none⟩ (.slice a9 dd.length c9)) = W7 := ⟨_, rfl⟩
          have k7 := ((((((kR.set (o := 0) (.int .i64 (u0 : Int))).set (o := 1) (.int .i64 (n1 : Int))).set (o := 2) (.int .i64 (n2 : Int))).set (o := 3) (.int .i64 (n3 : Int))).set (o := 4) (.bool slb)).set (o := 5) (.slice a9 dd.length c9))
          rw [hW7] at k7
          simp only [List.setIfInBounds_toArray, List.set_cons_zero, List.set_cons_succ] at k7
          have x7 : Ext (fun b => b = W.heap.size) W9 W7 := by rw [← hW7]; exact (((((((Ext.refl (fun b => b = W.heap.size) W9).setCell (.inl rfl) _).setCell (.inl rfl) _).setCell (.inl rfl) _).setCell (.inl rfl) _).setCell (.inl rfl) _).setCell (.inl rfl) _)
          have o7 := own_set W9 W7 W.heap.size _ o9 kR x7 (by decide)
          have b7 : Below W.heap.size W W7 := bW.trans (x7.belowOf bW.size (fun b hb e => by have e2 : b = W.heap.size := e; omega))
          have HH := hid (And.intro k7 (And.intro o7 b7))
          have HW7 := hid hW7
          clear k7 o7 b7 x7 o9 k9 kR bW hW7
          go_wp2_with fail
          rw [HW7.out]
          have hld := run_loadVar_row (P := Tryz.prog) W7 W.heap.size 44 44 _ (0, 0) _ HH.out.1 Tryz.underlying44 rfl size_ans
          refine bodyPost_ret (v := .tuple #[.agg #[.int .i64 (u0 : Int), .int .i64 (n1 : Int), .int .i64 (n2 : Int), .int .i64 (n3 : Int), .bool slb, .slice a9 dd.length c9], .int .i64 0]) ?_ rfl ?_
          · simp [results, Tryz.results35, hld, asAddr]
          · rw [HP.out]; exact ⟨_, rfl, HH.out.2.1, HH.out.2.2⟩
    · have hd9 : decide ((u3 : Int) > 1) = true := decide_eq_true (by omega)
      have HP := hid (show ∀ e w', AnsPost W l e w' = (e = .returned (.tuple #[.agg #[.int .i64 0, .int .i64 0, .int .i64 0, .int .i64 0, .bool false, .slice none 0 0], .int .i64 22]) ∧ Below W.heap.size W w') from fun e w' => by unfold AnsPost getAns; rw [hb]; simp only [hn3, hle, false_and, if_false])
      clear hb hn1 hn3 o2 hc0
      have m0 := kR.cell (o := 0) rfl
      have f0 := kR.free 0
      have m1 := kR.cell (o := 1) rfl
      have f1 := kR.free 1
      have m2 := kR.cell (o := 2) rfl
      have f2 := kR.free 2
      have m3 := kR.cell (o := 3) rfl
      have f3 := kR.free 3
      have m4 := kR.cell (o := 4) rfl
      have f4 := kR.free 4
      have m5 := kR.cell (o := 5) rfl
      have f5 := kR.free 5
      obtain ⟨W5, hW5⟩ : ∃ W5, ((((((W2.setCell ⟨W.heap.size, 0, none⟩ (.int .i64 0)).setCell ⟨W.heap.size, 1, none⟩ (.int .i64 0)).setCell ⟨W.heap.size, 2, none⟩ (.int .i64 0)).setCell ⟨W.heap.size, 3, none⟩ (.int .i64 0)).setCell ⟨W.heap.size, 4, none⟩ (.bool false)).setCell ⟨W.heap.size, 5, none⟩ (.slice none 0 0)) = W5 := ⟨_, rfl⟩
      have k5 := ((((((kR.set (o := 0) (.int .i64 0)).set (o := 1) (.int .i64 0)).set (o := 2) (.int .i64 0)).set (o := 3) (.int .i64 0)).set (o := 4) (.bool false)).set (o := 5) (.slice none 0 0))
      rw [hW5] at k5
      simp only [List.setIfInBounds_toArray, List.set_cons_zero, List.set_cons_succ] at k5
      have b5 : Below W.heap.size W W5 := by rw [← hW5]; exact ((((((bW.setCell (p := ⟨W.heap.size, 0, none⟩) (by simp) _).setCell (p := ⟨W.heap.size, 1, none⟩) (by simp) _).setCell (p := ⟨W.heap.size, 2, none⟩) (by simp) _).setCell (p := ⟨W.heap.size, 3, none⟩) (by simp) _).setCell (p := ⟨W.heap.size, 4, none⟩) (by simp) _).setCell (p := ⟨W.heap.size, 5, none⟩) (by simp) _)
      have HH := hid (And.intro k5 b5)
      have HW := hid hW5
      clear k5 b5 kR bW hW5
      go_wp2_with fail
      rw [HW.out]
      have hld := run_loadVar_row (P := Tryz.prog) W5 W.heap.size 44 44 _ (0, 0) _ HH.out.1 Tryz.underlying44 rfl size_ans
      refine bodyPost_ret (v := .tuple #[.agg #[.int .i64 0, .int .i64 0, .int .i64 0, .int .i64 0, .bool false, .slice none 0 0], .int .i64 22]) ?_ rfl ?_
      · simp [results, Tryz.results35, hld, asAddr]
      · rw [HP.out]; exact ⟨rfl, HH.out.2⟩
end Go.Proofs.YtcdcjoofcbdilaaGreat
