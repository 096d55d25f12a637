import Derived.Test.YtcdcjoofcbdilaaGreatMAccA
/-! Package acceptor: body, numbers, PutAsk, PutAnswer, GetAsk, GetAnswer. -/
namespace Go.Proofs.YtcdcjoofcbdilaaGreat
open Go.RowKit

set_option maxRecDepth 100000 in
set_option maxHeartbeats 1600000 in
theorem acc_body (v : Value) (l : List UInt8) (w : World) (hv : Bs w v l) (hl : l.length ≤ 1073741824) (kind least : Nat) (hk : kind ≤ 255) (hle : least ≤ 255) :
    Calls Tryz.prog 67 #[v, .int .i64 (kind : Int), .int .i64 (least : Int)] w (BodyPost w l kind least) := by
  obtain ⟨a0, c0, rfl⟩ := hv.form
  have hun := hid (wire_Unframe _ l w hv hl)
  cases hu : unframe l with
  | none =>
    have hp : ∀ e w', BodyPost w l kind least e w' = (∃ v, e = .returned (.tuple #[v, .bool false]) ∧ Below w.heap.size w w') := fun e w' => by unfold BodyPost bodyF; rw [hu]
    have Hp := hid hp
    have Hu := hid hu
    clear hp hu
    go_enter Tryz.func67, Tryz.ntmps67
    go_wp2_with fail
    refine hun.out.mono ?_
    intro e w1 hpost
    unfold UnfPost at hpost
    rw [Hu.out] at hpost
    obtain ⟨c, hc, rfl, b1⟩ := hpost
    have hcb : (c == 0) = false := beq_eq_false_iff_ne.2 hc
    clear hc hun
    go_wp2_with fail
    go_ret2
    rw [Hp.out]
    exact ⟨_, rfl, b1⟩
  | some y =>
    obtain ⟨k, x, to⟩ := y
    obtain ⟨hto, hxl, hk256⟩ := unframe_lens hu
    have Hu := hid hu
    by_cases hall : k = kind ∧ to = l.length ∧ least ≤ x.length
    · have hp : ∀ e w', BodyPost w l kind least e w' = (∃ v, e = .returned (.tuple #[v, .bool true]) ∧ Own8 w' w.heap.size 5 v x ∧ Below w.heap.size w w') := fun e w' => by unfold BodyPost bodyF; rw [hu]; simp only [if_pos hall]
      have Hp := hid hp
      obtain ⟨h1, h2, h3⟩ := hall
      have e1 : ((k : Int) == (kind : Int)) = true := beq_iff_eq.2 (by omega)
      have e2 : ((to : Int) == (l.length : Int)) = true := beq_iff_eq.2 (by omega)
      have e3 : decide ((x.length : Int) ≥ (least : Int)) = true := decide_eq_true (by omega)
      clear hp hu h1 h2
      go_enter Tryz.func67, Tryz.ntmps67
      go_wp2_with fail
      refine hun.out.mono ?_
      intro e w1 hpost
      unfold UnfPost at hpost
      rw [Hu.out] at hpost
      obtain ⟨v1, rfl, o1, b1⟩ := hpost
      obtain ⟨a1, c1, rfl⟩ := o1.form
      have HO := hid o1
      clear hun o1
      go_wp2_with fail
      go_ret2
      rw [Hp.out]
      exact ⟨_, rfl, HO.out, b1⟩
    · have hp : ∀ e w', BodyPost w l kind least e w' = (∃ v, e = .returned (.tuple #[v, .bool false]) ∧ Below w.heap.size w w') := fun e w' => by unfold BodyPost bodyF; rw [hu]; simp only [if_neg hall]
      have Hp := hid hp
      have hne : ((k : Int) == (kind : Int)) = false ∨ (((k : Int) == (kind : Int)) = true ∧ ((to : Int) == (l.length : Int)) = false) ∨ (((k : Int) == (kind : Int)) = true ∧ ((to : Int) == (l.length : Int)) = true ∧ decide (least ≤ x.length) = false) := by
        by_cases h1 : k = kind
        · by_cases h2 : to = l.length
          · exact .inr (.inr ⟨beq_iff_eq.2 (by omega), beq_iff_eq.2 (by omega), decide_eq_false (fun h3 => hall ⟨h1, h2, h3⟩)⟩)
          · exact .inr (.inl ⟨beq_iff_eq.2 (by omega), beq_eq_false_iff_ne.2 (by omega)⟩)
        · exact .inl (beq_eq_false_iff_ne.2 (by omega))
      clear hp hu hall
      rcases hne with e1 | ⟨e1, e2⟩ | ⟨e1, e2, e3⟩
      all_goals
        go_enter Tryz.func67, Tryz.ntmps67
        go_wp2_with fail
        refine hun.out.mono ?_
        intro e w1 hpost
        unfold UnfPost at hpost
        rw [Hu.out] at hpost
        obtain ⟨v1, rfl, o1, b1⟩ := hpost
        obtain ⟨a1, c1, rfl⟩ := o1.form
        clear hun o1
        go_wp2_with fail
        go_ret2
        rw [Hp.out]
        exact ⟨_, rfl, b1⟩


theorem size_ask : (Tryz.prog.info? 48).map (·.size) = some 5 := by kernel_rfl
theorem size_ans : (Tryz.prog.info? 44).map (·.size) = some 6 := by kernel_rfl
/-- A row with numbers put in from its second cell on. -/
def fillN (c : Array Value) (N : Nat → Value) : Nat → Array Value
  | 0 => c
  | j + 1 => (fillN c N j).setIfInBounds (j + 1) (N j)
theorem fillN_size (c : Array Value) (N : Nat → Value) : ∀ j, (fillN c N j).size = c.size
  | 0 => rfl
  | j + 1 => by rw [fillN, Array.size_setIfInBounds, fillN_size c N j]
def num6 (l : List UInt8) (at_ j : Nat) : Value := .int .i64 ((numOf ((l.drop (at_ + 6 * j)).take 6) : Nat) : Int)

set_option maxRecDepth 100000 in
set_option maxHeartbeats 1600000 in
theorem acc_numbers (g gp cp at0 : Nat) (c : Array Value) (t tp : TypeId) (v : Value) (l : List UInt8) (W : World) (hv : Bs W v l) (hl : at0 + 18 ≤ l.length) (hvg : ∀ k, v.ownBlock = some k → k ≠ g)
    (hp : Blk W gp #[.pointer (some ⟨g, 1, none⟩), .pointer (some ⟨g, 2, none⟩), .pointer (some ⟨g, 3, none⟩)] tp) (hg : Blk W g c t) (hne : g ≠ gp) (hc : 4 ≤ c.size) :
    Calls Tryz.prog 68 #[v, .int .i64 (at0 : Int), .slice (some ⟨gp, 0, none⟩) 3 cp] W fun e w' => (∃ x, e = .returned x) ∧ Blk w' g (fillN c (num6 l at0) 3) t ∧ Ext (fun b => b = g) W w' := by
  have hmx := hv.len
  unfold maxLen at hmx
  have HV := hid hv
  have HP := hid hp
  have HG := hid hg
  clear hv hp hg
  go_enter Tryz.func68, Tryz.ntmps68
  go_wp2_with fail
  go_loopw [1, 10] (fun a i wr => ∃ j : Nat, j ≤ 3 ∧ i = .int .i64 (j : Int) ∧ a = .int .i64 ((at0 + 6 * j : Nat) : Int) ∧ Blk wr g (fillN c (num6 l at0) j) t ∧ Ext (fun b => b = g) W wr) (fun _ i _ => 3 - (intOf i).toNat)
  case atStart => exact ⟨0, by omega, rfl, rfl, HG.out, Ext.refl _ _⟩
  case round =>
    obtain ⟨j, hj, rfl, rfl, hk, hx⟩ := hrel
    by_cases hlt : j < 3
    · have hptr : wr.cell? ⟨gp, j, none⟩ = some (.pointer (some ⟨g, j + 1, none⟩)) := (HP.out.ext hx (fun e => hne e.symm)).cell (by
        match j, hlt with
        | 0, _ => rfl
        | 1, _ => rfl
        | 2, _ => rfl)
      have hvr := HV.out.ext hx (fun k hk _ e => hvg k hk e)
      have HK := hid (And.intro hk hx)
      clear hk hx
      go_wp2_with fail
      refine (wire_Get v l ((at0 + 6 * j : Nat) : Int) 6 wr hvr (by omega) (by omega) (by omega) (by omega)).mono ?_
      rintro e W2 ⟨rfl, b2⟩
      have k2 := HK.out.1.keep b2
      have hx2 := HK.out.2.then b2
      obtain ⟨u, _, hcell⟩ := k2.cellAt (o := j + 1) (by rw [fillN_size]; omega)
      have hfree := k2.free (j + 1)
      have HE := hid (show num6 l at0 j = .int .i64 ((numOf (List.take (6 : Int).toNat (List.drop (((at0 + 6 * j : Nat) : Int)).toNat l)) : Nat) : Int) from rfl)
      have hat : ((at0 + 6 * j : Nat) : Int) + 6 = ((at0 + 6 * (j + 1) : Nat) : Int) := by omega
      rw [hat]
      rw [← HE.out]
      have HK2 := hid (And.intro k2 hx2)
      have hone : (num6 l at0 j).oneCell' = true := rfl
      clear hat HE b2 k2 hx2 HK hptr hvr
      unfold num6
      go_wp2_with fail
      go_roundw
      case rel => exact ⟨j + 1, by omega, by go_num, rfl, HK2.out.1.set _, HK2.out.2.setCell (.inl rfl) _⟩
      case measure => simp [intOf]; omega
    · obtain rfl : j = 3 := by omega
      go_wp2_with fail
      go_end0
      exact ⟨⟨_, rfl⟩, hk, hx⟩

theorem Parts.four' {w : World} {g : Nat} {t : TypeId} {a b c d : Value} {x y z u : List UInt8} (h : Blk w g #[a, b, c, d] t) (ha : Bs w a x) (hb : Bs w b y) (hc : Bs w c z) (hd : Bs w d u) : Parts w g [a, b, c, d] [x, y, z, u] := Parts.four h ha hb hc hd

set_option maxRecDepth 100000 in
set_option maxHeartbeats 3200000 in
theorem acc_PutAsk (k key ver bal : Int) (v : Value) (l : List UInt8) (W : World) (hv : Bs W v l) :
    Calls Tryz.prog 31 #[.agg #[.int .i64 k, .int .i64 key, .int .i64 ver, .int .i64 bal, v]] W fun e w' => ∃ v', e = .returned (.tuple #[v', .int .i64 (if askOk k key ver bal l.length then 0 else 1)]) ∧ Own8 w' W.heap.size 5 v' (putAskB k key ver bal l) ∧ Below W.heap.size W w' := by
  obtain ⟨a0, c0, rfl⟩ := hv.form
  have hll := hv.len
  unfold maxLen at hll
  have b1 : Below W.heap.size W (W.alloc (.cells #[.int .i64 k, .int .i64 key, .int .i64 ver, .int .i64 bal, .slice a0 l.length c0] 48)) := (Below.refl _ W).alloc (Nat.le_refl _) _
  have B1 := Blk.new W #[.int .i64 k, .int .i64 key, .int .i64 ver, .int .i64 bal, .slice a0 l.length c0] 48
  have hv1 := hv.keep b1
  have hrt := acc_ask_right k key ver bal a0 l.length c0 (W.alloc (.cells #[.int .i64 k, .int .i64 key, .int .i64 ver, .int .i64 bal, .slice a0 l.length c0] 48)) (by omega)
  unfold putAskB
  cases ht : askOk k key ver bal l.length
  · rw [ht] at hrt
    have HR := hid hrt
    clear hrt ht
    go_enter Tryz.func31, Tryz.ntmps31
    go_wp2_with fail
    refine HR.out.mono ?_
    rintro e W2 ⟨rfl, b2⟩
    go_wp2_with fail
    go_ret2
    exact ⟨_, rfl, Own8.nil _ _ _, b1.trans (b2.mono b1.size)⟩
  · rw [ht] at hrt
    have HR := hid hrt
    have hrr := of_decide_eq_true ht
    have HL := hid (show (askB k key ver bal l).length ≤ 65536 by rw [askB_length]; omega)
    clear hrt hv ht
    go_enter Tryz.func31, Tryz.ntmps31
    go_wp2_with fail
    refine HR.out.mono ?_
    rintro e W2 ⟨rfl, b2⟩
    have HK := hid (B1.keep b2)
    have HV := hid (hv1.keep b2)
    have HBW := hid (b1.trans (b2.mono b1.size))
    clear HR hv1 b1 b2 B1
    go_wp2_with fail
    refine wp_region_invW rfl Grows (fun i v x => match i with
        | 0 => v = .pointer (some ⟨W.heap.size, 0, none⟩)
        | 1 => v = .int .i64 k
        | 2 => v = .int .u8 k
        | 3 => ∃ g, v = .slice (some ⟨g, 0, none⟩) 1 1 ∧ Own8 x W.heap.size 5 (.slice (some ⟨g, 0, none⟩) 1 1) (lowB k 1)
        | 4 => v = .pointer (some ⟨W.heap.size, 1, none⟩)
        | 5 => v = .int .i64 key
        | 6 => v = .pointer (some ⟨W.heap.size, 2, none⟩)
        | 7 => v = .int .i64 ver
        | 8 => v = .pointer (some ⟨W.heap.size, 3, none⟩)
        | 9 => v = .int .i64 bal
        | 10 => ∃ g, v = .slice (some ⟨g, 0, none⟩) 3 3 ∧ Blk x g #[.int .i64 key, .int .i64 ver, .int .i64 bal] 3
        | 11 => Own8 x W.heap.size 5 v (threeB key ver bal)
        | 12 => v = .pointer (some ⟨W.heap.size, 4, none⟩)
        | 13 => v = .slice a0 l.length c0
        | 14 => ∃ g vs, v = .slice (some ⟨g, 0, none⟩) 3 3 ∧ 3 = vs.length ∧ Parts x g vs [lowB k 1, threeB key ver bal, l]
        | 15 => Own8 x W.heap.size 5 v (askB k key ver bal l)
        | 16 => ∃ v', v = .tuple #[v', .int .i64 0] ∧ Own8 x W.heap.size 5 v' (frameB 3 (askB k key ver bal l))
        | 17 => Own8 x W.heap.size 5 v (frameB 3 (askB k key ver bal l))
        | 18 => v = .int .i64 0
        | 19 => Own8 x W.heap.size 5 v (frameB 3 (askB k key ver bal l))
        | 20 => v = .int .i64 0
        | _ => True) (by kernel_rfl) (Grows.refl _) Grows.trans ?rstab ?rsteps ?rfin
    case rstab =>
      intro i v x y hg h
      match i with
      | 0 | 1 | 2 | 4 | 5 | 6 | 7 | 8 | 9 | 12 | 13 | 18 | 20 => exact h
      | 3 => exact (by obtain ⟨g9, e9, h9⟩ := h; exact ⟨g9, e9, h9.keep hg⟩)
      | 10 => exact (by obtain ⟨g9, e9, h9⟩ := h; exact ⟨g9, e9, h9.keep hg⟩)
      | 11 => exact Own8.keep h hg
      | 14 => exact (by obtain ⟨g, vs, e, h4, hb⟩ := h; exact ⟨g, vs, e, h4, hb.keep hg⟩)
      | 15 => exact Own8.keep h hg
      | 16 => exact (by obtain ⟨v9, e9, h9⟩ := h; exact ⟨v9, e9, h9.keep hg⟩)
      | 17 => exact Own8.keep h hg
      | 19 => exact Own8.keep h hg
      | n + 21 => trivial
    case rsteps =>
      refine ⟨?_, ?_, ?_, ?_, ?_, ?_, ?_, ?_, ?_, ?_, ?_, ?_, ?_, ?_, ?_, ?_, ?_, ?_, ?_, ?_, ?_, trivial⟩
      · intro a x hA
        have t1 := hA.at_ 1 (by first | rfl | kernel_rfl) rfl
        refine step_value (w' := x) (v := .pointer (some ⟨W.heap.size, 0, none⟩)) ?_ (Grows.refl _) ?_
        · go_simp
        · rfl
      · intro a x hA
        have t7 : a.tmps[7]?.getD undef = .pointer (some ⟨W.heap.size, 0, none⟩) := hA.dep_ ⟨0, .data⟩ (by simp) _ 7 rfl rfl
        have hBx := HK.out.keep hA.grown
        have hc0 := hBx.cell (o := 0) rfl
        have hc1 := hBx.cell (o := 1) rfl
        have hc2 := hBx.cell (o := 2) rfl
        have hc3 := hBx.cell (o := 3) rfl
        have hc4 := hBx.cell (o := 4) rfl
        clear hBx
        refine step_value (w' := x) (v := .int .i64 k) ?_ (Grows.refl _) ?_
        · go_simp
        · rfl
      · intro a x hA
        have t8 : a.tmps[8]?.getD undef = .int .i64 k := hA.dep_ ⟨1, .data⟩ (by simp) _ 8 rfl rfl
        have hBx := HK.out.keep hA.grown
        have hc0 := hBx.cell (o := 0) rfl
        have hc1 := hBx.cell (o := 1) rfl
        have hc2 := hBx.cell (o := 2) rfl
        have hc3 := hBx.cell (o := 3) rfl
        have hc4 := hBx.cell (o := 4) rfl
        clear hBx
        have hw : IntKind.u8.wrap k = k := IntWalk.u8_in _ (by omega)
        refine step_value (w' := x) (v := .int .u8 k) ?_ (Grows.refl _) rfl
        go_simp
      · intro a x hA
        have t9 : a.tmps[9]?.getD undef = .int .u8 k := hA.dep_ ⟨2, .data⟩ (by simp) _ 9 rfl rfl
        have hsx : W.heap.size ≤ x.heap.size := Nat.le_trans HBW.out.size hA.grow.size
        refine step_value (w' := x.alloc (.cells #[.int .u8 (k)] 5)) (v := .slice (some ⟨x.heap.size, 0, none⟩) 1 1) (by go_simp) (Grows.alloc _ _) ?_
        exact ⟨_, rfl, own8_mk hsx (Blk.new x _ _) rfl (Nat.le_refl _) (by unfold maxLen; omega) rfl (fun i u h => by
          match i, h with
          | 0, h => simp [lowB] at h; subst h; simp [byteOf_val]; omega)⟩
      · intro a x hA
        have t1 := hA.at_ 1 (by first | rfl | kernel_rfl) rfl
        refine step_value (w' := x) (v := .pointer (some ⟨W.heap.size, 1, none⟩)) ?_ (Grows.refl _) ?_
        · go_simp
        · rfl
      · intro a x hA
        have t11 : a.tmps[11]?.getD undef = .pointer (some ⟨W.heap.size, 1, none⟩) := hA.dep_ ⟨4, .data⟩ (by simp) _ 11 rfl rfl
        have hBx := HK.out.keep hA.grown
        have hc0 := hBx.cell (o := 0) rfl
        have hc1 := hBx.cell (o := 1) rfl
        have hc2 := hBx.cell (o := 2) rfl
        have hc3 := hBx.cell (o := 3) rfl
        have hc4 := hBx.cell (o := 4) rfl
        clear hBx
        refine step_value (w' := x) (v := .int .i64 key) ?_ (Grows.refl _) ?_
        · go_simp
        · rfl
      · intro a x hA
        have t1 := hA.at_ 1 (by first | rfl | kernel_rfl) rfl
        refine step_value (w' := x) (v := .pointer (some ⟨W.heap.size, 2, none⟩)) ?_ (Grows.refl _) ?_
        · go_simp
        · rfl
      · intro a x hA
        have t13 : a.tmps[13]?.getD undef = .pointer (some ⟨W.heap.size, 2, none⟩) := hA.dep_ ⟨6, .data⟩ (by simp) _ 13 rfl rfl
        have hBx := HK.out.keep hA.grown
        have hc0 := hBx.cell (o := 0) rfl
        have hc1 := hBx.cell (o := 1) rfl
        have hc2 := hBx.cell (o := 2) rfl
        have hc3 := hBx.cell (o := 3) rfl
        have hc4 := hBx.cell (o := 4) rfl
        clear hBx
        refine step_value (w' := x) (v := .int .i64 ver) ?_ (Grows.refl _) ?_
        · go_simp
        · rfl
      · intro a x hA
        have t1 := hA.at_ 1 (by first | rfl | kernel_rfl) rfl
        refine step_value (w' := x) (v := .pointer (some ⟨W.heap.size, 3, none⟩)) ?_ (Grows.refl _) ?_
        · go_simp
        · rfl
      · intro a x hA
        have t15 : a.tmps[15]?.getD undef = .pointer (some ⟨W.heap.size, 3, none⟩) := hA.dep_ ⟨8, .data⟩ (by simp) _ 15 rfl rfl
        have hBx := HK.out.keep hA.grown
        have hc0 := hBx.cell (o := 0) rfl
        have hc1 := hBx.cell (o := 1) rfl
        have hc2 := hBx.cell (o := 2) rfl
        have hc3 := hBx.cell (o := 3) rfl
        have hc4 := hBx.cell (o := 4) rfl
        clear hBx
        refine step_value (w' := x) (v := .int .i64 bal) ?_ (Grows.refl _) ?_
        · go_simp
        · rfl
      · intro a x hA
        have t12 : a.tmps[12]?.getD undef = .int .i64 key := hA.dep_ ⟨5, .data⟩ (by simp) _ 12 rfl rfl
        have t14 : a.tmps[14]?.getD undef = .int .i64 ver := hA.dep_ ⟨7, .data⟩ (by simp) _ 14 rfl rfl
        have t16 : a.tmps[16]?.getD undef = .int .i64 bal := hA.dep_ ⟨9, .data⟩ (by simp) _ 16 rfl rfl
        refine step_value (w' := x.alloc (.cells #[.int .i64 key, .int .i64 ver, .int .i64 bal] 3)) (v := .slice (some ⟨x.heap.size, 0, none⟩) 3 3) (by go_simp) (Grows.alloc _ _) ?_
        exact ⟨_, rfl, Blk.new x _ _⟩
      · intro a x hA
        have t17 : ∃ g, (a.tmps[17]?.getD undef) = .slice (some ⟨g, 0, none⟩) 3 3 ∧ Blk x g #[.int .i64 key, .int .i64 ver, .int .i64 bal] 3 := hA.dep_ ⟨10, .data⟩ (by simp) _ 17 rfl rfl
        obtain ⟨g, e9, h9⟩ := t17
        have hs := Nat.le_trans HBW.out.size hA.grow.size
        have hcs : ∀ i z, ([key, ver, bal] : List Int)[i]? = some z → x.cell? ⟨g, i, none⟩ = some (.int .i64 z) := by
          intro i z hz
          match i, hz with
          | 0, hz => simp at hz; subst hz; exact h9.cell rfl
          | 1, hz => simp at hz; subst hz; exact h9.cell rfl
          | 2, hz => simp at hz; subst hz; exact h9.cell rfl
        have hf : flat6 [key, ver, bal] = threeB key ver bal := by simp [flat6, threeB]
        clear h9
        refine step_call (f := 59) (args := #[.slice (some ⟨g, 0, none⟩) 3 3]) (by clear hcs; go_simp) ((acc_low g 3 3 [key, ver, bal] x rfl (by simp) hcs (by simp; omega)).mono ?_)
        rw [hf]
        rintro e w' ⟨v, rfl, ho, hb⟩
        exact ⟨v, rfl, hb, ho.mono hs⟩
      · intro a x hA
        have t1 := hA.at_ 1 (by first | rfl | kernel_rfl) rfl
        refine step_value (w' := x) (v := .pointer (some ⟨W.heap.size, 4, none⟩)) ?_ (Grows.refl _) ?_
        · go_simp
        · rfl
      · intro a x hA
        have t19 : a.tmps[19]?.getD undef = .pointer (some ⟨W.heap.size, 4, none⟩) := hA.dep_ ⟨12, .data⟩ (by simp) _ 19 rfl rfl
        have hBx := HK.out.keep hA.grown
        have hc0 := hBx.cell (o := 0) rfl
        have hc1 := hBx.cell (o := 1) rfl
        have hc2 := hBx.cell (o := 2) rfl
        have hc3 := hBx.cell (o := 3) rfl
        have hc4 := hBx.cell (o := 4) rfl
        clear hBx
        refine step_value (w' := x) (v := .slice a0 l.length c0) ?_ (Grows.refl _) ?_
        · go_simp
        · rfl
      · intro a x hA
        have t10 : ∃ g, (a.tmps[10]?.getD undef) = .slice (some ⟨g, 0, none⟩) 1 1 ∧ Own8 x W.heap.size 5 (.slice (some ⟨g, 0, none⟩) 1 1) (lowB k 1) := hA.dep_ ⟨3, .data⟩ (by simp) _ 10 rfl rfl
        have t18 : Own8 x W.heap.size 5 (a.tmps[18]?.getD undef) (threeB key ver bal) := hA.dep_ ⟨11, .data⟩ (by simp) _ 18 rfl rfl
        have t20 : a.tmps[20]?.getD undef = .slice a0 l.length c0 := hA.dep_ ⟨13, .data⟩ (by simp) _ 20 rfl rfl
        obtain ⟨gA, eA, oA⟩ := t10
        obtain ⟨aB, cB, eB⟩ := t18.form
        rw [eB] at t18
        have hl9 := HV.out.keep hA.grown
        have hgr := Grows.alloc x (.cells #[.slice (some ⟨gA, 0, none⟩) 1 1, .slice aB (threeB key ver bal).length cB, .slice a0 l.length c0] 30)
        refine step_value (w' := x.alloc (.cells #[.slice (some ⟨gA, 0, none⟩) 1 1, .slice aB (threeB key ver bal).length cB, .slice a0 l.length c0] 30)) (v := .slice (some ⟨x.heap.size, 0, none⟩) 3 3) ?_ hgr ?_
        · clear t18 oA hl9
          go_simp
        · exact ⟨_, _, rfl, rfl, Parts.three (Blk.new _ _ _) (oA.bs.keep hgr) (t18.bs.keep hgr) (hl9.keep hgr)⟩
      · intro a x hA
        have t21 : ∃ g vs, (a.tmps[21]?.getD undef) = .slice (some ⟨g, 0, none⟩) 3 3 ∧ 3 = vs.length ∧ Parts x g vs [lowB k 1, threeB key ver bal, l] := hA.dep_ ⟨14, .data⟩ (by simp) _ 21 rfl rfl
        obtain ⟨g, vs, ev, h4, hp⟩ := t21
        have hF : ([lowB k 1, threeB key ver bal, l] : List (List UInt8)).flatten = askB k key ver bal l := by simp [askB]
        have hFl := HL.out
        have hs := Nat.le_trans HBW.out.size hA.grow.size
        refine step_call (f := 58) (args := #[.slice (some ⟨g, 0, none⟩) 3 3]) (by clear hp; go_simp) ((slices_Concat _ _ _ _ _ x h4 hp (by omega) (by rw [hF]; omega)).mono ?_)
        rw [hF]
        rintro e w' ⟨v, rfl, ho, hb⟩
        exact ⟨v, rfl, hb, ho.mono hs⟩
      · intro a x hA
        have t22 : Own8 x W.heap.size 5 (a.tmps[22]?.getD undef) (askB k key ver bal l) := hA.dep_ ⟨15, .data⟩ (by simp) _ 22 rfl rfl
        have hFl := HL.out
        have hs := Nat.le_trans HBW.out.size hA.grow.size
        have hbs := t22.bs
        refine step_call (f := 57) (args := #[.int .i64 3, a.tmps[22]?.getD undef]) (by go_simp) ((wire_Frame 3 _ _ x (by omega) (by omega) hbs (by omega)).mono ?_)
        rintro e w' ⟨v, rfl, ho, hb⟩
        exact ⟨_, rfl, hb, v, rfl, ho.mono hs⟩
      · intro a x hA
        have t23 : ∃ v', (a.tmps[23]?.getD undef) = .tuple #[v', .int .i64 0] ∧ Own8 x W.heap.size 5 v' (frameB 3 (askB k key ver bal l)) := hA.dep_ ⟨16, .data⟩ (by simp) _ 23 rfl rfl
        obtain ⟨v9, e9, h9⟩ := t23
        exact step_value (w' := x) (v := v9) (by go_simp) (Grows.refl _) h9
      · intro a x hA
        have t23 : ∃ v', (a.tmps[23]?.getD undef) = .tuple #[v', .int .i64 0] ∧ Own8 x W.heap.size 5 v' (frameB 3 (askB k key ver bal l)) := hA.dep_ ⟨16, .data⟩ (by simp) _ 23 rfl rfl
        have hBx := HK.out.keep hA.grown
        have hc0 := hBx.cell (o := 0) rfl
        have hc1 := hBx.cell (o := 1) rfl
        have hc2 := hBx.cell (o := 2) rfl
        have hc3 := hBx.cell (o := 3) rfl
        have hc4 := hBx.cell (o := 4) rfl
        clear hBx
        obtain ⟨v9, e9, h9⟩ := t23
        refine step_value (w' := x) (v := .int .i64 0) ?_ (Grows.refl _) rfl
        clear h9
        go_simp
      · intro a x hA
        have t24 : Own8 x W.heap.size 5 (a.tmps[24]?.getD undef) (frameB 3 (askB k key ver bal l)) := hA.dep_ ⟨17, .data⟩ (by simp) _ 24 rfl rfl
        exact step_value (w' := x) (v := a.tmps[24]?.getD undef) (by go_simp) (Grows.refl _) t24
      · intro a x hA
        have t25 : a.tmps[25]?.getD undef = .int .i64 0 := hA.dep_ ⟨18, .data⟩ (by simp) _ 25 rfl rfl
        refine step_value (w' := x) (v := .int .i64 0) ?_ (Grows.refl _) ?_
        · go_simp
        · rfl
    case rfin =>
      intro y W' hg hV
      simp only [AllVals] at hV
      obtain ⟨_, _, _, _, _, _, _, _, _, _, _, _, _, _, _, _, _, _, _, hA9, hB9, _⟩ := hV
      have hbW := HBW.out.trans (Below.mono (Below.trans (below_of_drewN _ _ 1) hg) HBW.out.size)
      clear hg
      simp only [putAll, Act.put, List.setIfInBounds_toArray, List.set_cons_zero, List.set_cons_succ]
      rw [hB9]
      clear hB9
      go_wp2_with fail
      go_ret2
      exact ⟨_, rfl, hA9, hbW⟩

set_option maxRecDepth 100000 in
set_option maxHeartbeats 3200000 in
theorem acc_PutAnswer (er ver pr ba : Int) (le : Bool) (v : Value) (l : List UInt8) (W : World) (hv : Bs W v l) :
    Calls Tryz.prog 66 #[.agg #[.int .i64 er, .int .i64 ver, .int .i64 pr, .int .i64 ba, .bool le, v]] W fun e w' => ∃ v', e = .returned (.tuple #[v', .int .i64 (if ansOk er ver pr ba l.length then 0 else 1)]) ∧ Own8 w' W.heap.size 5 v' (putAnsB er ver pr ba le l) ∧ Below W.heap.size W w' := by
  obtain ⟨a0, c0, rfl⟩ := hv.form
  have hll := hv.len
  unfold maxLen at hll
  have b1 : Below W.heap.size W (W.alloc (.cells #[.int .i64 er, .int .i64 ver, .int .i64 pr, .int .i64 ba, .bool le, .slice a0 l.length c0] 44)) := (Below.refl _ W).alloc (Nat.le_refl _) _
  have B1 := Blk.new W #[.int .i64 er, .int .i64 ver, .int .i64 pr, .int .i64 ba, .bool le, .slice a0 l.length c0] 44
  have hv1 := hv.keep b1
  have hrt := acc_ans_right er ver pr ba le a0 l.length c0 (W.alloc (.cells #[.int .i64 er, .int .i64 ver, .int .i64 pr, .int .i64 ba, .bool le, .slice a0 l.length c0] 44)) (by omega)
  unfold putAnsB
  cases ht : ansOk er ver pr ba l.length
  · rw [ht] at hrt
    have HR := hid hrt
    clear hrt ht
    go_enter Tryz.func66, Tryz.ntmps66
    go_wp2_with fail
    refine HR.out.mono ?_
    rintro e W2 ⟨rfl, b2⟩
    go_wp2_with fail
    go_ret2
    exact ⟨_, rfl, Own8.nil _ _ _, b1.trans (b2.mono b1.size)⟩
  · rw [ht] at hrt
    have HR := hid hrt
    have hrr := of_decide_eq_true ht
    have HL := hid (show (ansB er ver pr ba le l).length ≤ 65536 by rw [ansB_length]; omega)
    clear hrt hv ht
    go_enter Tryz.func66, Tryz.ntmps66
    go_wp2_with fail
    refine HR.out.mono ?_
    rintro e W2 ⟨rfl, b2⟩
    have HK := hid (B1.keep b2)
    have HV := hid (hv1.keep b2)
    have HBW := hid (b1.trans (b2.mono b1.size))
    clear HR hv1 b1 b2 B1
    go_wp2_with fail
    refine wp_region_invW rfl Grows (fun i v x => match i with
        | 0 => v = .pointer (some ⟨W.heap.size, 0, none⟩)
        | 1 => v = .int .i64 er
        | 2 => v = .int .u8 er
        | 3 => ∃ g, v = .slice (some ⟨g, 0, none⟩) 1 1 ∧ Own8 x W.heap.size 5 (.slice (some ⟨g, 0, none⟩) 1 1) (lowB er 1)
        | 4 => v = .pointer (some ⟨W.heap.size, 1, none⟩)
        | 5 => v = .int .i64 ver
        | 6 => v = .pointer (some ⟨W.heap.size, 2, none⟩)
        | 7 => v = .int .i64 pr
        | 8 => v = .pointer (some ⟨W.heap.size, 3, none⟩)
        | 9 => v = .int .i64 ba
        | 10 => ∃ g, v = .slice (some ⟨g, 0, none⟩) 3 3 ∧ Blk x g #[.int .i64 ver, .int .i64 pr, .int .i64 ba] 3
        | 11 => Own8 x W.heap.size 5 v (threeB ver pr ba)
        | 12 => v = .pointer (some ⟨W.heap.size, 4, none⟩)
        | 13 => v = .bool le
        | 14 => v = .int .u8 (bit le)
        | 15 => ∃ g, v = .slice (some ⟨g, 0, none⟩) 1 1 ∧ Own8 x W.heap.size 5 (.slice (some ⟨g, 0, none⟩) 1 1) (lowB (bit le) 1)
        | 16 => v = .pointer (some ⟨W.heap.size, 5, none⟩)
        | 17 => v = .slice a0 l.length c0
        | 18 => ∃ g vs, v = .slice (some ⟨g, 0, none⟩) 4 4 ∧ 4 = vs.length ∧ Parts x g vs [lowB er 1, threeB ver pr ba, lowB (bit le) 1, l]
        | 19 => Own8 x W.heap.size 5 v (ansB er ver pr ba le l)
        | 20 => ∃ v', v = .tuple #[v', .int .i64 0] ∧ Own8 x W.heap.size 5 v' (frameB 4 (ansB er ver pr ba le l))
        | 21 => Own8 x W.heap.size 5 v (frameB 4 (ansB er ver pr ba le l))
        | 22 => v = .int .i64 0
        | 23 => Own8 x W.heap.size 5 v (frameB 4 (ansB er ver pr ba le l))
        | 24 => v = .int .i64 0
        | _ => True) (by kernel_rfl) (Grows.refl _) Grows.trans ?rstab ?rsteps ?rfin
    case rstab =>
      intro i v x y hg h
      match i with
      | 0 | 1 | 2 | 4 | 5 | 6 | 7 | 8 | 9 | 12 | 13 | 14 | 16 | 17 | 22 | 24 => exact h
      | 3 => exact (by obtain ⟨g9, e9, h9⟩ := h; exact ⟨g9, e9, h9.keep hg⟩)
      | 10 => exact (by obtain ⟨g9, e9, h9⟩ := h; exact ⟨g9, e9, h9.keep hg⟩)
      | 11 => exact Own8.keep h hg
      | 15 => exact (by obtain ⟨g9, e9, h9⟩ := h; exact ⟨g9, e9, h9.keep hg⟩)
      | 18 => exact (by obtain ⟨g, vs, e, h4, hb⟩ := h; exact ⟨g, vs, e, h4, hb.keep hg⟩)
      | 19 => exact Own8.keep h hg
      | 20 => exact (by obtain ⟨v9, e9, h9⟩ := h; exact ⟨v9, e9, h9.keep hg⟩)
      | 21 => exact Own8.keep h hg
      | 23 => exact Own8.keep h hg
      | n + 25 => trivial
    case rsteps =>
      refine ⟨?_, ?_, ?_, ?_, ?_, ?_, ?_, ?_, ?_, ?_, ?_, ?_, ?_, ?_, ?_, ?_, ?_, ?_, ?_, ?_, ?_, ?_, ?_, ?_, ?_, trivial⟩
      · intro a x hA
        have t1 := hA.at_ 1 (by first | rfl | kernel_rfl) rfl
        refine step_value (w' := x) (v := .pointer (some ⟨W.heap.size, 0, none⟩)) ?_ (Grows.refl _) ?_
        · go_simp
        · rfl
      · intro a x hA
        have t7 : a.tmps[7]?.getD undef = .pointer (some ⟨W.heap.size, 0, none⟩) := hA.dep_ ⟨0, .data⟩ (by simp) _ 7 rfl rfl
        have hBx := HK.out.keep hA.grown
        have hc0 := hBx.cell (o := 0) rfl
        have hc1 := hBx.cell (o := 1) rfl
        have hc2 := hBx.cell (o := 2) rfl
        have hc3 := hBx.cell (o := 3) rfl
        have hc4 := hBx.cell (o := 4) rfl
        have hc5 := hBx.cell (o := 5) rfl
        clear hBx
        refine step_value (w' := x) (v := .int .i64 er) ?_ (Grows.refl _) ?_
        · go_simp
        · rfl
      · intro a x hA
        have t8 : a.tmps[8]?.getD undef = .int .i64 er := hA.dep_ ⟨1, .data⟩ (by simp) _ 8 rfl rfl
        have hBx := HK.out.keep hA.grown
        have hc0 := hBx.cell (o := 0) rfl
        have hc1 := hBx.cell (o := 1) rfl
        have hc2 := hBx.cell (o := 2) rfl
        have hc3 := hBx.cell (o := 3) rfl
        have hc4 := hBx.cell (o := 4) rfl
        have hc5 := hBx.cell (o := 5) rfl
        clear hBx
        have hw : IntKind.u8.wrap er = er := IntWalk.u8_in _ (by omega)
        refine step_value (w' := x) (v := .int .u8 er) ?_ (Grows.refl _) rfl
        go_simp
      · intro a x hA
        have t9 : a.tmps[9]?.getD undef = .int .u8 er := hA.dep_ ⟨2, .data⟩ (by simp) _ 9 rfl rfl
        have hsx : W.heap.size ≤ x.heap.size := Nat.le_trans HBW.out.size hA.grow.size
        refine step_value (w' := x.alloc (.cells #[.int .u8 (er)] 5)) (v := .slice (some ⟨x.heap.size, 0, none⟩) 1 1) (by go_simp) (Grows.alloc _ _) ?_
        exact ⟨_, rfl, own8_mk hsx (Blk.new x _ _) rfl (Nat.le_refl _) (by unfold maxLen; omega) rfl (fun i u h => by
          match i, h with
          | 0, h => simp [lowB] at h; subst h; simp [byteOf_val]; omega)⟩
      · intro a x hA
        have t1 := hA.at_ 1 (by first | rfl | kernel_rfl) rfl
        refine step_value (w' := x) (v := .pointer (some ⟨W.heap.size, 1, none⟩)) ?_ (Grows.refl _) ?_
        · go_simp
        · rfl
      · intro a x hA
        have t11 : a.tmps[11]?.getD undef = .pointer (some ⟨W.heap.size, 1, none⟩) := hA.dep_ ⟨4, .data⟩ (by simp) _ 11 rfl rfl
        have hBx := HK.out.keep hA.grown
        have hc0 := hBx.cell (o := 0) rfl
        have hc1 := hBx.cell (o := 1) rfl
        have hc2 := hBx.cell (o := 2) rfl
        have hc3 := hBx.cell (o := 3) rfl
        have hc4 := hBx.cell (o := 4) rfl
        have hc5 := hBx.cell (o := 5) rfl
        clear hBx
        refine step_value (w' := x) (v := .int .i64 ver) ?_ (Grows.refl _) ?_
        · go_simp
        · rfl
      · intro a x hA
        have t1 := hA.at_ 1 (by first | rfl | kernel_rfl) rfl
        refine step_value (w' := x) (v := .pointer (some ⟨W.heap.size, 2, none⟩)) ?_ (Grows.refl _) ?_
        · go_simp
        · rfl
      · intro a x hA
        have t13 : a.tmps[13]?.getD undef = .pointer (some ⟨W.heap.size, 2, none⟩) := hA.dep_ ⟨6, .data⟩ (by simp) _ 13 rfl rfl
        have hBx := HK.out.keep hA.grown
        have hc0 := hBx.cell (o := 0) rfl
        have hc1 := hBx.cell (o := 1) rfl
        have hc2 := hBx.cell (o := 2) rfl
        have hc3 := hBx.cell (o := 3) rfl
        have hc4 := hBx.cell (o := 4) rfl
        have hc5 := hBx.cell (o := 5) rfl
        clear hBx
        refine step_value (w' := x) (v := .int .i64 pr) ?_ (Grows.refl _) ?_
        · go_simp
        · rfl
      · intro a x hA
        have t1 := hA.at_ 1 (by first | rfl | kernel_rfl) rfl
        refine step_value (w' := x) (v := .pointer (some ⟨W.heap.size, 3, none⟩)) ?_ (Grows.refl _) ?_
        · go_simp
        · rfl
      · intro a x hA
        have t15 : a.tmps[15]?.getD undef = .pointer (some ⟨W.heap.size, 3, none⟩) := hA.dep_ ⟨8, .data⟩ (by simp) _ 15 rfl rfl
        have hBx := HK.out.keep hA.grown
        have hc0 := hBx.cell (o := 0) rfl
        have hc1 := hBx.cell (o := 1) rfl
        have hc2 := hBx.cell (o := 2) rfl
        have hc3 := hBx.cell (o := 3) rfl
        have hc4 := hBx.cell (o := 4) rfl
        have hc5 := hBx.cell (o := 5) rfl
        clear hBx
        refine step_value (w' := x) (v := .int .i64 ba) ?_ (Grows.refl _) ?_
        · go_simp
        · rfl
      · intro a x hA
        have t12 : a.tmps[12]?.getD undef = .int .i64 ver := hA.dep_ ⟨5, .data⟩ (by simp) _ 12 rfl rfl
        have t14 : a.tmps[14]?.getD undef = .int .i64 pr := hA.dep_ ⟨7, .data⟩ (by simp) _ 14 rfl rfl
        have t16 : a.tmps[16]?.getD undef = .int .i64 ba := hA.dep_ ⟨9, .data⟩ (by simp) _ 16 rfl rfl
        refine step_value (w' := x.alloc (.cells #[.int .i64 ver, .int .i64 pr, .int .i64 ba] 3)) (v := .slice (some ⟨x.heap.size, 0, none⟩) 3 3) (by go_simp) (Grows.alloc _ _) ?_
        exact ⟨_, rfl, Blk.new x _ _⟩
      · intro a x hA
        have t17 : ∃ g, (a.tmps[17]?.getD undef) = .slice (some ⟨g, 0, none⟩) 3 3 ∧ Blk x g #[.int .i64 ver, .int .i64 pr, .int .i64 ba] 3 := hA.dep_ ⟨10, .data⟩ (by simp) _ 17 rfl rfl
        obtain ⟨g, e9, h9⟩ := t17
        have hs := Nat.le_trans HBW.out.size hA.grow.size
        have hcs : ∀ i z, ([ver, pr, ba] : List Int)[i]? = some z → x.cell? ⟨g, i, none⟩ = some (.int .i64 z) := by
          intro i z hz
          match i, hz with
          | 0, hz => simp at hz; subst hz; exact h9.cell rfl
          | 1, hz => simp at hz; subst hz; exact h9.cell rfl
          | 2, hz => simp at hz; subst hz; exact h9.cell rfl
        have hf : flat6 [ver, pr, ba] = threeB ver pr ba := by simp [flat6, threeB]
        clear h9
        refine step_call (f := 59) (args := #[.slice (some ⟨g, 0, none⟩) 3 3]) (by clear hcs; go_simp) ((acc_low g 3 3 [ver, pr, ba] x rfl (by simp) hcs (by simp; omega)).mono ?_)
        rw [hf]
        rintro e w' ⟨v, rfl, ho, hb⟩
        exact ⟨v, rfl, hb, ho.mono hs⟩
      · intro a x hA
        have t1 := hA.at_ 1 (by first | rfl | kernel_rfl) rfl
        refine step_value (w' := x) (v := .pointer (some ⟨W.heap.size, 4, none⟩)) ?_ (Grows.refl _) ?_
        · go_simp
        · rfl
      · intro a x hA
        have t19 : a.tmps[19]?.getD undef = .pointer (some ⟨W.heap.size, 4, none⟩) := hA.dep_ ⟨12, .data⟩ (by simp) _ 19 rfl rfl
        have hBx := HK.out.keep hA.grown
        have hc0 := hBx.cell (o := 0) rfl
        have hc1 := hBx.cell (o := 1) rfl
        have hc2 := hBx.cell (o := 2) rfl
        have hc3 := hBx.cell (o := 3) rfl
        have hc4 := hBx.cell (o := 4) rfl
        have hc5 := hBx.cell (o := 5) rfl
        clear hBx
        refine step_value (w' := x) (v := .bool le) ?_ (Grows.refl _) ?_
        · go_simp
        · rfl
      · intro a x hA
        have t20 : a.tmps[20]?.getD undef = .bool le := hA.dep_ ⟨13, .data⟩ (by simp) _ 20 rfl rfl
        have hBx := HK.out.keep hA.grown
        have hc0 := hBx.cell (o := 0) rfl
        have hc1 := hBx.cell (o := 1) rfl
        have hc2 := hBx.cell (o := 2) rfl
        have hc3 := hBx.cell (o := 3) rfl
        have hc4 := hBx.cell (o := 4) rfl
        have hc5 := hBx.cell (o := 5) rfl
        clear hBx
        refine step_call (f := 108) (args := #[.bool le]) (by go_simp) ((acc_truth le x).mono ?_)
        rintro e w' ⟨rfl, hw⟩
        exact ⟨_, rfl, by rw [hw]; exact Grows.refl _, rfl⟩
      · intro a x hA
        have t21 : a.tmps[21]?.getD undef = .int .u8 (bit le) := hA.dep_ ⟨14, .data⟩ (by simp) _ 21 rfl rfl
        have hsx : W.heap.size ≤ x.heap.size := Nat.le_trans HBW.out.size hA.grow.size
        refine step_value (w' := x.alloc (.cells #[.int .u8 (bit le)] 5)) (v := .slice (some ⟨x.heap.size, 0, none⟩) 1 1) (by go_simp) (Grows.alloc _ _) ?_
        exact ⟨_, rfl, own8_mk hsx (Blk.new x _ _) rfl (Nat.le_refl _) (by unfold maxLen; omega) rfl (fun i u h => by
          match i, h with
          | 0, h => simp [lowB] at h; subst h; simp [byteOf_val]; (cases le <;> simp [bit]))⟩
      · intro a x hA
        have t1 := hA.at_ 1 (by first | rfl | kernel_rfl) rfl
        refine step_value (w' := x) (v := .pointer (some ⟨W.heap.size, 5, none⟩)) ?_ (Grows.refl _) ?_
        · go_simp
        · rfl
      · intro a x hA
        have t23 : a.tmps[23]?.getD undef = .pointer (some ⟨W.heap.size, 5, none⟩) := hA.dep_ ⟨16, .data⟩ (by simp) _ 23 rfl rfl
        have hBx := HK.out.keep hA.grown
        have hc0 := hBx.cell (o := 0) rfl
        have hc1 := hBx.cell (o := 1) rfl
        have hc2 := hBx.cell (o := 2) rfl
        have hc3 := hBx.cell (o := 3) rfl
        have hc4 := hBx.cell (o := 4) rfl
        have hc5 := hBx.cell (o := 5) rfl
        clear hBx
        refine step_value (w' := x) (v := .slice a0 l.length c0) ?_ (Grows.refl _) ?_
        · go_simp
        · rfl
      · intro a x hA
        have t10 : ∃ g, (a.tmps[10]?.getD undef) = .slice (some ⟨g, 0, none⟩) 1 1 ∧ Own8 x W.heap.size 5 (.slice (some ⟨g, 0, none⟩) 1 1) (lowB er 1) := hA.dep_ ⟨3, .data⟩ (by simp) _ 10 rfl rfl
        have t18 : Own8 x W.heap.size 5 (a.tmps[18]?.getD undef) (threeB ver pr ba) := hA.dep_ ⟨11, .data⟩ (by simp) _ 18 rfl rfl
        have t22 : ∃ g, (a.tmps[22]?.getD undef) = .slice (some ⟨g, 0, none⟩) 1 1 ∧ Own8 x W.heap.size 5 (.slice (some ⟨g, 0, none⟩) 1 1) (lowB (bit le) 1) := hA.dep_ ⟨15, .data⟩ (by simp) _ 22 rfl rfl
        have t24 : a.tmps[24]?.getD undef = .slice a0 l.length c0 := hA.dep_ ⟨17, .data⟩ (by simp) _ 24 rfl rfl
        obtain ⟨gA, eA, oA⟩ := t10
        obtain ⟨aB, cB, eB⟩ := t18.form
        rw [eB] at t18
        obtain ⟨gC, eC, oC⟩ := t22
        have hl9 := HV.out.keep hA.grown
        have hgr := Grows.alloc x (.cells #[.slice (some ⟨gA, 0, none⟩) 1 1, .slice aB (threeB ver pr ba).length cB, .slice (some ⟨gC, 0, none⟩) 1 1, .slice a0 l.length c0] 30)
        refine step_value (w' := x.alloc (.cells #[.slice (some ⟨gA, 0, none⟩) 1 1, .slice aB (threeB ver pr ba).length cB, .slice (some ⟨gC, 0, none⟩) 1 1, .slice a0 l.length c0] 30)) (v := .slice (some ⟨x.heap.size, 0, none⟩) 4 4) ?_ hgr ?_
        · clear t18 oA hl9 oC
          go_simp
        · exact ⟨_, _, rfl, rfl, Parts.four (Blk.new _ _ _) (oA.bs.keep hgr) (t18.bs.keep hgr) (oC.bs.keep hgr) (hl9.keep hgr)⟩
      · intro a x hA
        have t25 : ∃ g vs, (a.tmps[25]?.getD undef) = .slice (some ⟨g, 0, none⟩) 4 4 ∧ 4 = vs.length ∧ Parts x g vs [lowB er 1, threeB ver pr ba, lowB (bit le) 1, l] := hA.dep_ ⟨18, .data⟩ (by simp) _ 25 rfl rfl
        obtain ⟨g, vs, ev, h4, hp⟩ := t25
        have hF : ([lowB er 1, threeB ver pr ba, lowB (bit le) 1, l] : List (List UInt8)).flatten = ansB er ver pr ba le l := by simp [ansB]
        have hFl := HL.out
        have hs := Nat.le_trans HBW.out.size hA.grow.size
        refine step_call (f := 58) (args := #[.slice (some ⟨g, 0, none⟩) 4 4]) (by clear hp; go_simp) ((slices_Concat _ _ _ _ _ x h4 hp (by omega) (by rw [hF]; omega)).mono ?_)
        rw [hF]
        rintro e w' ⟨v, rfl, ho, hb⟩
        exact ⟨v, rfl, hb, ho.mono hs⟩
      · intro a x hA
        have t26 : Own8 x W.heap.size 5 (a.tmps[26]?.getD undef) (ansB er ver pr ba le l) := hA.dep_ ⟨19, .data⟩ (by simp) _ 26 rfl rfl
        have hFl := HL.out
        have hs := Nat.le_trans HBW.out.size hA.grow.size
        have hbs := t26.bs
        refine step_call (f := 57) (args := #[.int .i64 4, a.tmps[26]?.getD undef]) (by go_simp) ((wire_Frame 4 _ _ x (by omega) (by omega) hbs (by omega)).mono ?_)
        rintro e w' ⟨v, rfl, ho, hb⟩
        exact ⟨_, rfl, hb, v, rfl, ho.mono hs⟩
      · intro a x hA
        have t27 : ∃ v', (a.tmps[27]?.getD undef) = .tuple #[v', .int .i64 0] ∧ Own8 x W.heap.size 5 v' (frameB 4 (ansB er ver pr ba le l)) := hA.dep_ ⟨20, .data⟩ (by simp) _ 27 rfl rfl
        obtain ⟨v9, e9, h9⟩ := t27
        exact step_value (w' := x) (v := v9) (by go_simp) (Grows.refl _) h9
      · intro a x hA
        have t27 : ∃ v', (a.tmps[27]?.getD undef) = .tuple #[v', .int .i64 0] ∧ Own8 x W.heap.size 5 v' (frameB 4 (ansB er ver pr ba le l)) := hA.dep_ ⟨20, .data⟩ (by simp) _ 27 rfl rfl
        have hBx := HK.out.keep hA.grown
        have hc0 := hBx.cell (o := 0) rfl
        have hc1 := hBx.cell (o := 1) rfl
        have hc2 := hBx.cell (o := 2) rfl
        have hc3 := hBx.cell (o := 3) rfl
        have hc4 := hBx.cell (o := 4) rfl
        have hc5 := hBx.cell (o := 5) rfl
        clear hBx
        obtain ⟨v9, e9, h9⟩ := t27
        refine step_value (w' := x) (v := .int .i64 0) ?_ (Grows.refl _) rfl
        clear h9
        go_simp
      · intro a x hA
        have t28 : Own8 x W.heap.size 5 (a.tmps[28]?.getD undef) (frameB 4 (ansB er ver pr ba le l)) := hA.dep_ ⟨21, .data⟩ (by simp) _ 28 rfl rfl
        exact step_value (w' := x) (v := a.tmps[28]?.getD undef) (by go_simp) (Grows.refl _) t28
      · intro a x hA
        have t29 : a.tmps[29]?.getD undef = .int .i64 0 := hA.dep_ ⟨22, .data⟩ (by simp) _ 29 rfl rfl
        refine step_value (w' := x) (v := .int .i64 0) ?_ (Grows.refl _) ?_
        · go_simp
        · rfl
    case rfin =>
      intro y W' hg hV
      simp only [AllVals] at hV
      obtain ⟨_, _, _, _, _, _, _, _, _, _, _, _, _, _, _, _, _, _, _, _, _, _, _, hA9, hB9, _⟩ := hV
      have hbW := HBW.out.trans (Below.mono (Below.trans (below_of_drewN _ _ 1) hg) HBW.out.size)
      clear hg
      simp only [putAll, Act.put, List.setIfInBounds_toArray, List.set_cons_zero, List.set_cons_succ]
      rw [hB9]
      clear hB9
      go_wp2_with fail
      go_ret2
      exact ⟨_, rfl, hA9, hbW⟩
end Go.Proofs.YtcdcjoofcbdilaaGreat
