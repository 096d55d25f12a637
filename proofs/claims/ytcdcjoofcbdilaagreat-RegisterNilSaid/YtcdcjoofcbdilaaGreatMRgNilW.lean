import Derived.Test.YtcdcjoofcbdilaaGreatMRgT
/-! Register links without a net: every call. -/
namespace Go.Proofs.YtcdcjoofcbdilaaGreat
open Go.RowKit

def NoNet (w : World) (pn : Value) : Prop := pn = .pointer none ∨ ∃ N l t, pn = .pointer (some ⟨N, 0, none⟩) ∧ Blk w N #[l, t, .bool false] 56
def NoRg (w : World) (v : Value) : Prop := v = .pointer none ∨ ∃ L pn, v = .pointer (some ⟨L, 0, none⟩) ∧ Blk w L #[pn, .slice none 0 0, .int .i64 0] 28 ∧ NoNet w pn
section
variable {W w w' : World} {v pn : Value}
theorem NoNet.keep (h : NoNet w pn) (hb : Below w.heap.size w w') : NoNet w' pn := by
  rcases h with h | ⟨N, l, t, e, h⟩
  · exact .inl h
  · exact .inr ⟨N, l, t, e, h.keep hb⟩
theorem NoRg.keep (h : NoRg w v) (hb : Below w.heap.size w w') : NoRg w' v := by
  rcases h with h | ⟨L, pn, e, h, h2⟩
  · exact .inl h
  · exact .inr ⟨L, pn, e, h.keep hb, h2.keep hb⟩
theorem NoRg.ptr (h : NoRg w v) : ∃ a, v = .pointer a := by
  rcases h with h | ⟨L, pn, e, _⟩
  · exact ⟨_, h⟩
  · exact ⟨_, e⟩
theorem net_Made_no (h : NoNet w pn) : Calls Tryz.prog 9 #[pn] w fun e w' => e = .returned (.bool false) ∧ w' = w := by
  rcases h with rfl | ⟨N, l, t, rfl, h⟩
  · go_enter Tryz.func9, Tryz.ntmps9
    go_wp2_with fail
    go_ret
    exact ⟨rfl, rfl⟩
  · have c2 := h.cell (o := 2) rfl
    go_enter Tryz.func9, Tryz.ntmps9
    go_wp2_with fail
    go_ret
    exact ⟨rfl, rfl⟩
theorem norg_none (h : NoRg w v) : Calls Tryz.prog 32 #[v] w fun e w' => e = .returned (.bool true) ∧ w' = w := by
  rcases h with rfl | ⟨L, pn, rfl, h, h2⟩
  · go_enter Tryz.func32, Tryz.ntmps32
    go_wp2_with fail
    go_ret
    exact ⟨rfl, rfl⟩
  · have c0 := h.cell (o := 0) rfl
    have HM := hid (net_Made_no h2)
    obtain ⟨a, hpn⟩ : ∃ a, pn = .pointer a := by
      rcases h2 with e | ⟨N, l, t, e, _⟩
      · exact ⟨_, e⟩
      · exact ⟨_, e⟩
    subst hpn
    clear h2 h
    go_enter Tryz.func32, Tryz.ntmps32
    go_wp2_with fail
    refine HM.out.mono ?_
    rintro e Wx ⟨rfl, hw⟩
    rw [hw]
    clear hw Wx
    go_wp2_with fail
    go_ret
    exact ⟨rfl, rfl⟩
theorem norg_Deliver (h : NoRg w v) (k : Int) (a : Option Addr) (n c : Nat) : Calls Tryz.prog 16 #[v, .int .i64 k, .slice a n c] w fun e w' => e = .returned (.bool false) ∧ w' = w := by
  have HN := hid (norg_none h)
  obtain ⟨pa, hv⟩ := h.ptr
  subst hv
  clear h
  go_enter Tryz.func16, Tryz.ntmps16
  go_wp2_with fail
  refine HN.out.mono ?_
  rintro e Wx ⟨rfl, hw⟩
  rw [hw]
  clear hw Wx
  go_wp2_with fail
  go_ret
  exact ⟨rfl, rfl⟩
theorem norg_may (h : NoRg w v) (key id : Int) : Calls Tryz.prog 24 #[v, .int .i64 key, .int .i64 id] w fun e w' => e = .returned (.bool false) ∧ w' = w := by
  have HN := hid (norg_none h)
  obtain ⟨pa, hv⟩ := h.ptr
  subst hv
  clear h
  go_enter Tryz.func24, Tryz.ntmps24
  go_wp2_with fail
  refine HN.out.mono ?_
  rintro e Wx ⟨rfl, hw⟩
  rw [hw]
  clear hw Wx
  go_wp2_with fail
  go_ret
  exact ⟨rfl, rfl⟩
theorem norg_Read (h : NoRg w v) (key id : Int) : Calls Tryz.prog 11 #[v, .int .i64 key, .int .i64 id] w fun e w' => e = .returned (.tuple #[.int .i64 0, .slice none 0 0, .int .i64 1]) ∧ w' = w := by
  have HN := hid (norg_may h key id)
  obtain ⟨pa, hv⟩ := h.ptr
  subst hv
  clear h
  go_enter Tryz.func11, Tryz.ntmps11
  go_wp2_with fail
  refine HN.out.mono ?_
  rintro e Wx ⟨rfl, hw⟩
  rw [hw]
  clear hw Wx
  go_wp2_with fail
  go_ret3
  exact ⟨rfl, rfl⟩
theorem norg_Swap (h : NoRg w v) (key id ver : Int) (a : Option Addr) (n c : Nat) : Calls Tryz.prog 12 #[v, .int .i64 key, .int .i64 id, .int .i64 ver, .slice a n c] w fun e w' => e = .returned (.int .i64 1) ∧ Below w.heap.size w w' := by
  obtain ⟨W1, hW1⟩ : ∃ W1, w.alloc (.cells #[.slice a n c] 30) = W1 := ⟨_, rfl⟩
  have HB := hid (show Below w.heap.size w W1 from by rw [← hW1]; exact (Below.refl _ w).alloc (Nat.le_refl _) _)
  have HN := hid (norg_may (h.keep HB.out) key id)
  obtain ⟨pa, hv⟩ := h.ptr
  subst hv
  clear h
  go_enter Tryz.func12, Tryz.ntmps12
  go_wp2_with fail
  clear hW1
  refine HN.out.mono ?_
  rintro e Wx ⟨rfl, hw⟩
  rw [hw]
  clear hw Wx
  go_wp2_with fail
  go_ret
  exact ⟨rfl, HB.out⟩
set_option maxRecDepth 100000 in
set_option maxHeartbeats 3200000 in
theorem norg_Ask (h : NoRg w v) (tw : Int) : Calls Tryz.prog 15 #[v, .int .i64 tw, .agg #[.int .i64 4, .int .i64 0, .int .i64 0, .int .i64 0, .slice none 0 0]] w fun e w' => e = .returned (.tuple #[.agg #[.int .i64 0, .int .i64 0, .int .i64 0, .int .i64 0, .bool false, .slice none 0 0], .bool false]) ∧ Below w.heap.size w w' := by
  obtain ⟨pa, hv⟩ := h.ptr
  subst hv
  obtain ⟨W0, hW0⟩ : ∃ W0, (w.alloc (.cells #[.int .i64 4, .int .i64 0, .int .i64 0, .int .i64 0, .slice none 0 0] 48)).alloc (.cells #[.int .i64 0, .int .i64 0, .int .i64 0, .int .i64 0, .bool false, .slice none 0 0] 44) = W0 := ⟨_, rfl⟩
  have b0 : Below w.heap.size w W0 := by rw [← hW0]; exact ((Below.refl _ w).alloc (Nat.le_refl _) _).alloc (by simp) _
  have k5 : Blk W0 w.heap.size #[.int .i64 4, .int .i64 0, .int .i64 0, .int .i64 0, .slice none 0 0] 48 := by rw [← hW0]; exact (Blk.new w _ _).alloc _
  have k6 : Blk W0 (w.heap.size + 1) #[.int .i64 0, .int .i64 0, .int .i64 0, .int .i64 0, .bool false, .slice none 0 0] 44 := by rw [← hW0]; exact Blk.new' _ _ (by simp) _ _
  have x0 := k5.cell (o := 0) rfl
  have x1 := k5.cell (o := 1) rfl
  have x2 := k5.cell (o := 2) rfl
  have x3 := k5.cell (o := 3) rfl
  have x4 := k5.cell (o := 4) rfl
  have HPC := hid (acc_PutAsk 4 0 0 0 (.slice none 0 0) [] W0 (Bs.nil _))
  have HL0 := hid (h.keep b0)
  have HK0 := hid k6
  have HB0 := hid b0
  clear h k6 b0 k5
  go_enter Tryz.func15, Tryz.ntmps15
  go_wp2_with fail
  clear hW0
  refine HPC.out.mono ?_
  rintro e W2 ⟨v', rfl, ho, b2⟩
  obtain ⟨a2, c2, rfl⟩ := ho.form
  have HL := hid (HL0.out.keep b2)
  have K6 := hid (HK0.out.keep b2)
  have HX := hid (HB0.out.trans (b2.mono HB0.out.size))
  clear b2 x0 x1 x2 x3 x4 ho
  go_wp2_with fail
  refine (norg_none HL.out).mono ?_
  rintro e Wx ⟨rfl, hw⟩
  rw [hw]
  clear hw Wx
  have m0 := K6.out.cell (o := 0) rfl
  have mf0 := K6.out.free 0
  have m1 := K6.out.cell (o := 1) rfl
  have mf1 := K6.out.free 1
  have m2 := K6.out.cell (o := 2) rfl
  have mf2 := K6.out.free 2
  have m3 := K6.out.cell (o := 3) rfl
  have mf3 := K6.out.free 3
  have m4 := K6.out.cell (o := 4) rfl
  have mf4 := K6.out.free 4
  have m5 := K6.out.cell (o := 5) rfl
  have mf5 := K6.out.free 5
  go_wp2_with fail
  obtain ⟨WZ, hWZ⟩ : ∃ WZ, ((((((W2.setCell ⟨w.heap.size + 1, 0, none⟩ (.int .i64 0)).setCell ⟨w.heap.size + 1, 1, none⟩ (.int .i64 0)).setCell ⟨w.heap.size + 1, 2, none⟩ (.int .i64 0)).setCell ⟨w.heap.size + 1, 3, none⟩ (.int .i64 0)).setCell ⟨w.heap.size + 1, 4, none⟩ (.bool false)).setCell ⟨w.heap.size + 1, 5, none⟩ (.slice none 0 0)) = WZ := ⟨_, rfl⟩
  have kZ := ((((((K6.out.set (o := 0) (.int .i64 0)).set (o := 1) (.int .i64 0)).set (o := 2) (.int .i64 0)).set (o := 3) (.int .i64 0)).set (o := 4) (.bool false)).set (o := 5) (.slice none 0 0))
  rw [hWZ] at kZ
  simp only [List.setIfInBounds_toArray, List.set_cons_zero, List.set_cons_succ] at kZ
  have xZ : Ext (fun b => b = w.heap.size + 1) W2 WZ := by rw [← hWZ]; exact (((((((Ext.refl (fun b => b = w.heap.size + 1) W2).setCell (a := ⟨w.heap.size + 1, 0, none⟩) (.inl rfl) _).setCell (a := ⟨w.heap.size + 1, 1, none⟩) (.inl rfl) _).setCell (a := ⟨w.heap.size + 1, 2, none⟩) (.inl rfl) _).setCell (a := ⟨w.heap.size + 1, 3, none⟩) (.inl rfl) _).setCell (a := ⟨w.heap.size + 1, 4, none⟩) (.inl rfl) _).setCell (a := ⟨w.heap.size + 1, 5, none⟩) (.inl rfl) _)
  rw [hWZ]
  have hld := run_loadVar_row (P := Tryz.prog) WZ (w.heap.size + 1) 44 44 _ (0, 0) _ kZ Tryz.underlying44 rfl size_answer
  refine bodyPost_ret (v := .tuple #[.agg #[.int .i64 0, .int .i64 0, .int .i64 0, .int .i64 0, .bool false, .slice none 0 0], .bool false]) ?_ rfl ?_
  · simp [results, Tryz.results15, hld, asAddr]
  · exact ⟨rfl, HX.out.trans (xZ.belowOf HX.out.size (fun b hb e => by have e2 : b = w.heap.size + 1 := e; omega))⟩
end
end Go.Proofs.YtcdcjoofcbdilaaGreat

/-! gazettelaw09.RegisterNil. -/
namespace Go.Proofs.YtcdcjoofcbdilaaGreat
open Go.RowKit

section
variable {W : World}
theorem info_paccs : ((Tryz.prog.info? 41).map (fun i => (i.zero, i.size, i.bytes))) = some (some (.pointer none), 1, 8) := by kernel_rfl
/-- Acceptors that are not there answer nothing. -/
theorem askAcN_none (k key ver bal : Int) (l : List UInt8) : ∀ t, askAcN k key ver bal l t none = (none, none)
  | 0 => rfl
  | t + 1 => by
    unfold askAcN
    rw [askAcN_none k key ver bal l t]
    rfl
theorem askR_none {s : RgS} (h : ∀ d ∈ s.acs, d = none) (tw k key ver bal : Int) (l : List UInt8) : (askR s tw k key ver bal l).1 = none ∧ ∀ d ∈ (askR s tw k key ver bal l).2.acs, d = none := by
  unfold askR
  split
  · have hd : s.acs.getD tw.toNat none = none := by
      rw [List.getD_eq_getElem?_getD]
      cases he : s.acs[tw.toNat]? with
      | none => rfl
      | some d => exact h d (List.mem_of_getElem? he)
    rw [hd, askAcN_none]
    refine ⟨by split <;> rfl, fun d hm => ?_⟩
    rcases List.mem_or_eq_of_mem_set hm with h9 | h9
    · exact h d h9
    · exact h9
  · exact ⟨rfl, h⟩
theorem allR_none {k key ver bal : Int} {l : List UInt8} : ∀ (ns : List Int) (s : RgS), (∀ d ∈ s.acs, d = none) → (allR s k key ver bal l ns).1 = [] ∧ ∀ d ∈ (allR s k key ver bal l ns).2.acs, d = none
  | [], s, h => ⟨rfl, h⟩
  | n :: ns, s, h => by
    obtain ⟨h1, h2⟩ := askR_none h n k key ver bal l
    obtain ⟨h3, h4⟩ := allR_none (k := k) (key := key) (ver := ver) (bal := bal) (l := l) ns _ h2
    unfold allR
    rw [h1, h3]
    exact ⟨rfl, h4⟩
theorem readR_none {s : RgS} (h : ∀ d ∈ s.acs, d = none) (hl : s.acs.length = 3) : (readR s 0 0).1 = (0, [], 33) ∧ (readR s 0 0).2.acs.length = 3 ∧ ∀ d ∈ (readR s 0 0).2.acs, d = none := by
  have hm : mayR s 0 0 = true := by unfold mayR; rw [hl]; decide
  have hh := allR_none (k := 4) (key := 0) (ver := 0) (bal := 0) (l := []) (idxR 0 s.acs.length) s h
  have hlen := hearR_acs s 4 0 0 0 []
  unfold readR
  rw [if_pos hm]
  dsimp only
  rw [show (hearR s 4 0 0 0 []).1 = [] from hh.1, if_pos (by unfold RgS.most goodR; rw [hl]; decide)]
  exact ⟨rfl, hlen.trans hl, hh.2⟩
theorem swapR_none {s : RgS} (h : ∀ d ∈ s.acs, d = none) (hl : s.acs.length = 3) : (swapR s 0 0 0 []).1 = 33 := by
  have hm : mayR s 0 0 = true := by unfold mayR; rw [hl]; decide
  have hr := (readR_none h hl).1
  unfold swapR
  rw [if_pos ⟨hm, by decide, by decide, by decide⟩]
  dsimp only
  rw [hr, if_pos (by decide)]
set_option maxRecDepth 100000 in
set_option maxHeartbeats 6400000 in
theorem law_rgNil (key : Int) (a0 : Option Addr) (n0 c0 : Nat) : Calls Tryz.prog 5 #[.int .i64 key, .slice a0 n0 c0] W fun e w' => e = .returned (.bool true) ∧ Below W.heap.size W w' := by
  go_enter Tryz.func5, Tryz.ntmps5
  go_upto_region 3 with fail
  go_loopw [5, 6] (fun lv i wr => ∃ t : Nat, t ≤ 3 ∧ i = .int .i64 (t : Int) ∧ NoRg wr lv ∧ Below W.heap.size W wr) (fun _ i _ => 3 - (intOf i).toNat)
  case atStart => exact ⟨0, by omega, rfl, .inl rfl, Below.refl _ _⟩
  case round =>
    obtain ⟨t, ht, rfl, hN, hb⟩ := hrel
    by_cases hlt : t < 3
    · have hd1 : decide ((t : Int) < 3) = true := decide_eq_true (by omega)
      have wt : wrap64 ((t : Int) + 1) = (t : Int) + 1 := by unfold wrap64; omega
      obtain ⟨pa, hpa⟩ := hN.ptr
      subst hpa
      have HN := hid hN
      have HB := hid hb
      clear hN hb
      go_upto_region 6 with (go_at_call 15; refine (norg_Ask HN.out 0).mono ?_; rintro e1 W1 ⟨rfl, b1⟩)
      have b2 : Below wr.heap.size wr (W1.alloc (.cells #[.int .i64 0, .int .i64 0, .int .i64 0, .int .i64 0, .bool false, .slice none 0 0] 44)) := b1.trans ((Below.refl _ W1).alloc b1.size _)
      clear b1
      generalize W1.alloc (.cells #[.int .i64 0, .int .i64 0, .int .i64 0, .int .i64 0, .bool false, .slice none 0 0] 44) = W2 at *
      have HN2 := hid (HN.out.keep b2)
      have HB2 := hid (HB.out.trans (b2.mono HB.out.size))
      clear b2
      have hz0 : wrap64 0 = 0 := by unfold wrap64; omega
      obtain ⟨tb, htb⟩ : ∃ tb, ((t : Int) == 1) = tb := ⟨_, rfl⟩
      go_wp2_with fail
      refine (norg_Read HN2.out key 0).mono ?_
      rintro e Wx ⟨rfl, hw⟩
      rw [hw]
      clear hw Wx
      go_wp2_with fail
      refine (norg_Deliver HN2.out 100 a0 n0 c0).mono ?_
      rintro e Wx ⟨rfl, hw⟩
      rw [hw]
      clear hw Wx
      go_wp2_with fail
      refine (law9_num 1 _).mono ?_
      rintro e w9 ⟨rfl, hw9⟩
      rw [hw9]
      clear hw9 w9
      go_wp2_with fail
      refine (norg_Swap HN2.out key 0 0 a0 n0 c0).mono ?_
      rintro e W3 ⟨rfl, b3⟩
      have HB3 := hid (HB2.out.trans (b3.mono HB2.out.size))
      clear b3
      go_wp2_with fail
      refine (law9_num 1 _).mono ?_
      rintro e w9 ⟨rfl, hw9⟩
      rw [hw9]
      clear hw9 w9
      have kL := Blk.new W3 #[.pointer none, .slice none 0 0, .int .i64 0] 28
      have bL : Below W3.heap.size W3 (W3.alloc (.cells #[.pointer none, .slice none 0 0, .int .i64 0] 28)) := (Below.refl _ W3).alloc (Nat.le_refl _) _
      have HK := hid (And.intro kL bL)
      clear kL bL
      cases tb
      · go_wp2_with fail
        go_roundw
        case rel =>
          exact ⟨t + 1, by omega, by go_num, .inr ⟨_, _, rfl, HK.out.1, .inl rfl⟩, HB3.out.trans (HK.out.2.mono HB3.out.size)⟩
        case measure => simp [intOf]; omega
      · go_wp2_with fail
        go_roundw
        case rel =>
          have kL := (Blk.new W3 #[.pointer (some ⟨W3.heap.size + 1, 0, none⟩), .slice none 0 0, .int .i64 0] 28).alloc (.cells #[.slice none 0 0, .slice none 0 0, .bool false] 56)
          have kN := Blk.new' (W3.alloc (.cells #[.pointer (some ⟨W3.heap.size + 1, 0, none⟩), .slice none 0 0, .int .i64 0] 28)) (W3.heap.size + 1) (by simp) #[.slice none 0 0, .slice none 0 0, .bool false] 56
          have b9 : Below W3.heap.size W3 ((W3.alloc (.cells #[.pointer (some ⟨W3.heap.size + 1, 0, none⟩), .slice none 0 0, .int .i64 0] 28)).alloc (.cells #[.slice none 0 0, .slice none 0 0, .bool false] 56)) := ((Below.refl _ W3).alloc (Nat.le_refl _) _).alloc (by simp) _
          exact ⟨t + 1, by omega, by go_num, .inr ⟨_, _, rfl, kL, .inr ⟨_, _, _, rfl, kN⟩⟩, HB3.out.trans (b9.mono HB3.out.size)⟩
        case measure => simp [intOf]; omega
    · obtain rfl : t = 3 := by omega
      have hd1 : decide (((3 : Nat) : Int) < 3) = false := rfl
      have HB := hid hb
      clear hN hb
      go_wp2_with fail
      refine net_New.mono ?_
      rintro e W1 ⟨rfl, kN, b1⟩
      go_upto_region 13 with fail
      obtain ⟨WL, hWL⟩ : ∃ WL, (W1.alloc (.cells #[.pointer none, .pointer none, .pointer none] 41)).alloc (.cells #[.pointer (some ⟨wr.heap.size, 0, none⟩), .slice (some ⟨W1.heap.size, 0, none⟩) 3 3, .int .i64 0] 28) = WL := ⟨_, rfl⟩
      have hNl := kN.lt
      have kA : Blk WL W1.heap.size #[.pointer none, .pointer none, .pointer none] 41 := by rw [← hWL]; exact (Blk.new W1 _ _).alloc _
      have kL : Blk WL (W1.heap.size + 1) #[.pointer (some ⟨wr.heap.size, 0, none⟩), .slice (some ⟨W1.heap.size, 0, none⟩) 3 3, .int .i64 0] 28 := by rw [← hWL]; exact Blk.new' _ _ (by simp) _ _
      have bL : Below W1.heap.size W1 WL := by rw [← hWL]; exact ((Below.refl _ W1).alloc (Nat.le_refl _) _).alloc (by simp) _
      have hRg : RgAt WL (W1.heap.size + 1) ⟨⟨wr.heap.size, .slice none 0 0, .slice none 0 0, fun _ => False⟩, W1.heap.size, 3, [.pointer none, .pointer none, .pointer none], fun _ _ => False⟩ ⟨⟨[], []⟩, [none, none, none], 0⟩ := by
        refine ⟨kL, netAt_new (kN.keep bL), ⟨_, kA, fun i v h => ?_⟩, rfl, by decide, fun i d hd => ?_, ⟨by decide, by decide⟩, fun i j b h => h.elim, ⟨by show W1.heap.size + 1 ≠ W1.heap.size; omega, fun hc => ?_, fun hc => ?_⟩, fun i b h => h.elim, fun i b h => h.elim⟩
        · rw [← List.getElem?_toArray] at h; exact h
        · match i, hd with
          | 0, hd => cases hd; exact ⟨_, rfl, .inl rfl⟩
          | 1, hd => cases hd; exact ⟨_, rfl, .inl rfl⟩
          | 2, hd => cases hd; exact ⟨_, rfl, .inl rfl⟩
        · have h9 : W1.heap.size + 1 = wr.heap.size := netP_new hc; omega
        · have h9 : W1.heap.size = wr.heap.size := netP_new hc; omega
      have hR0 : RR wr WL (W1.heap.size + 1) ⟨⟨[], []⟩, [none, none, none], 0⟩ := ⟨_, hRg, b1.trans (bL.mono b1.size), fun b hb => by
        rcases hb with h9 | h9 | h9 | ⟨i, h9⟩
        · omega
        · have := netP_new h9; omega
        · have h8 : b = W1.heap.size := h9; omega
        · exact h9.elim⟩
      obtain ⟨s0, hs0⟩ : ∃ s0 : RgS, s0 = ⟨⟨[], []⟩, [none, none, none], 0⟩ := ⟨_, rfl⟩
      have hall : ∀ d ∈ s0.acs, d = none := by rw [hs0]; intro d hd; simp at hd; exact hd
      have hlen : s0.acs.length = 3 := by rw [hs0]; rfl
      have hroom : s0.room 1000 := by rw [hs0]; unfold RgS.room; simp
      rw [← hs0] at hR0
      have hC := rr_read hR0 (by rw [hlen]; exact hroom.le (by omega)) 0 0
      obtain ⟨r1, r2, r3⟩ := readR_none hall hlen
      have hroom2 : (readR s0 0 0).2.room 100 := (readR_after s0 0 0).2 100 (by rw [hlen]; exact hroom.le (by omega))
      rw [r1] at hC
      generalize (readR s0 0 0).2 = s1 at *
      have HC := hid hC
      have HS1 := hid (And.intro r3 (And.intro r2 hroom2))
      have HBW := HB
      clear kA kL bL hRg hR0 hs0 hall hlen hroom hC r1 r2 r3 hroom2 kN b1
      rw [hWL]
      clear hWL
      go_wp2_with fail
      refine HC.out.mono ?_
      rintro e A1 ⟨v1, rfl, hR1, hv1⟩
      obtain ⟨av1, cv1, rfl⟩ := hv1.form
      have hC2 := rr_swap hR1 (by rw [HS1.out.2.1]; exact HS1.out.2.2.le (by omega)) (Below.refl _ _) 0 0 0 (.slice none 0 0) [] (Bs.nil _) (fun g hg => by cases hg)
      rw [swapR_none HS1.out.1 HS1.out.2.1] at hC2
      have HC2 := hid hC2
      clear hC2 hR1 hv1 HC
      go_wp2_with fail
      refine (law9_num 33 _).mono ?_
      rintro e w9 ⟨rfl, hw9⟩
      rw [hw9]
      clear hw9 w9
      go_wp2_with fail
      refine HC2.out.mono ?_
      rintro e A2 ⟨rfl, hR2⟩
      have HB2 := hid hR2.below
      clear hR2 HC2
      go_wp2_with fail
      refine (law9_num 33 _).mono ?_
      rintro e w9 ⟨rfl, hw9⟩
      rw [hw9]
      clear hw9 w9
      go_wp2_with fail
      refine law9_knows.mono ?_
      rintro e A3 ⟨rfl, b3⟩
      have HB3 := hid b3
      clear b3
      go_wp2_with fail
      go_ret
      exact ⟨rfl, HBW.out.trans ((HB2.out.trans (HB3.out.mono HB2.out.size)).mono HBW.out.size)⟩
end
end Go.Proofs.YtcdcjoofcbdilaaGreat
