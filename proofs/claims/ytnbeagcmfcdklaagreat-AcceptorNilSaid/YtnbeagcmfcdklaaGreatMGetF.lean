import Derived.Test.YtnbeagcmfcdklaaGreatSPut
/-! Package store, on: state, Tail. -/
namespace Go.Proofs.YtnbeagcmfcdklaaGreat
open Go.RowKit

section
variable {W : World} {q : StP} {S : St} {D : Dk}
theorem size_state : (Tryz.prog.info? 184).map (·.size) = some 3 := by kernel_rfl

set_option maxRecDepth 100000 in
set_option maxHeartbeats 1600000 in
theorem store_state (h : StAt W q S D) (lo : Int) :
    Calls Tryz.prog 109 #[.pointer (some ⟨q.s, 0, none⟩), .int .i64 lo] W fun e w' => e = .returned (stV (S.get lo)) ∧ Below W.heap.size W w' := by
  obtain ⟨tl, tr, sl, hget, k1, k2, k3, k4⟩ := S.get_form h lo
  have h1 := h.keep ((Below.refl _ W).alloc (Nat.le_refl _) (.cells #[.int .i64 0, .int .i64 0, .bool false] 184))
  have bX := Blk.new W #[.int .i64 0, .int .i64 0, .bool false] 184
  have b1 : Below W.heap.size W (W.alloc (.cells #[.int .i64 0, .int .i64 0, .bool false] 184)) := (Below.refl _ W).alloc (Nat.le_refl _) _
  have hno := store_none h1
  have hlk := store_lookup h1 lo
  rw [hget] at hlk
  simp only [stV] at hlk
  have c2 := h1.cell.cell (o := 2) rfl
  have Hget := hid hget
  clear hget h1
  obtain ⟨W1, hW1⟩ : ∃ W1, W.alloc (.cells #[.int .i64 0, .int .i64 0, .bool false] 184) = W1 := ⟨_, rfl⟩
  rw [hW1] at hno hlk c2 bX b1
  have x0 := bX.cell (o := 0) rfl
  have x1 := bX.cell (o := 1) rfl
  have x2 := bX.cell (o := 2) rfl
  have f0 := bX.free 0
  have f1 := bX.free 1
  have f2 := bX.free 2
  have bF := ((bX.set (o := 0) (.int .i64 tl)).set (o := 1) (.int .i64 tr)).set (o := 2) (.bool sl)
  simp only [List.setIfInBounds_toArray, List.set_cons_zero, List.set_cons_succ] at bF
  have bS : Below W.heap.size W (((W1.setCell ⟨W.heap.size, 0, none⟩ (.int .i64 tl)).setCell ⟨W.heap.size, 1, none⟩ (.int .i64 tr)).setCell ⟨W.heap.size, 2, none⟩ (.bool sl)) :=
    ((b1.setCell (p := ⟨W.heap.size, 0, none⟩) (by simp) _).setCell (p := ⟨W.heap.size, 1, none⟩) (by simp) _).setCell (p := ⟨W.heap.size, 2, none⟩) (by simp) _
  have HF := hid (And.intro bF bS)
  clear bF bS bX
  go_enter Tryz.func109, Tryz.ntmps109
  go_wp2_with fail
  refine hno.mono ?_
  rintro e W2 ⟨rfl, h2⟩
  subst h2
  go_wp2_with fail
  refine bodyPost_ret (results_cell_row rfl _ _ W.heap.size 184 _ (0, 0) _ rfl HF.out.1 Tryz.underlying184 rfl size_state) rfl ?_
  exact ⟨by rw [Hget.out]; rfl, HF.out.2⟩

set_option maxRecDepth 100000 in
set_option maxHeartbeats 1600000 in
theorem store_Tail (h : StAt W q S D) (lo : Int) :
    Calls Tryz.prog 77 #[.pointer (some ⟨q.s, 0, none⟩), .int .i64 lo] W fun e w' => e = .returned (.int .i64 (max (S.get lo).1 (S.get lo).2.1)) ∧ Below W.heap.size W w' := by
  go_enter Tryz.func77, Tryz.ntmps77
  go_wp2_with fail
  refine (store_state h lo).mono ?_
  rintro e W1 ⟨rfl, b1⟩
  obtain ⟨tl, tr, sl, hget, k1, k2, k3, k4⟩ := S.get_form h lo
  rw [hget]
  simp only [stV]
  have Hget := hid hget
  clear hget
  have bz : Below W.heap.size W (W1.alloc (.cells #[.int .i64 tl, .int .i64 tr, .bool sl] 184)) := b1.alloc b1.size _
  have HB := hid bz
  clear bz
  by_cases hm : tl < tr
  · have hd : decide (tl < tr) = true := decide_eq_true hm
    go_wp2_with fail
    all_goals go_ret
    all_goals (rw [Hget.out]; exact ⟨by simp only []; rw [show max tl tr = tr from by omega]; rfl, HB.out⟩)
  · have hd : decide (tl < tr) = false := decide_eq_false hm
    go_wp2_with fail
    all_goals go_ret
    all_goals (rw [Hget.out]; exact ⟨by simp only []; rw [show max tl tr = tl from by omega]; rfl, HB.out⟩)
end
end Go.Proofs.YtnbeagcmfcdklaaGreat

/-! Package store, on: Get. -/
namespace Go.Proofs.YtnbeagcmfcdklaaGreat
open Go.RowKit

section
variable {W : World} {q : StP} {S : St} {D : Dk}
/-- What a slot tells: the code, the data. -/
def getF (S : St) (lo po : Int) : Int × List UInt8 :=
  if po < (S.get lo).2.1 then (32, []) else match S.slots (lo, po) with | none => (3, []) | some l => (0, l)

set_option maxRecDepth 100000 in
set_option maxHeartbeats 1600000 in
theorem store_Get (h : StAt W q S D) (lo po : Int) (l0 : 0 ≤ lo) (l1 : lo < 281474976710656) (p0 : 0 ≤ po) (p1 : po ≤ 4095) :
    Calls Tryz.prog 78 #[.pointer (some ⟨q.s, 0, none⟩), .int .i64 lo, .int .i64 po] W fun e w' => ∃ v, e = .returned (.tuple #[v, .int .i64 (getF S lo po).1]) ∧ Own8 w' W.heap.size 5 v (getF S lo po).2 ∧ Below W.heap.size W w' := by
  have hmay := store_may h lo po 4095
  rw [if_pos ⟨l0, l1, p0, p1⟩] at hmay
  go_enter Tryz.func78, Tryz.ntmps78
  go_wp2_with fail
  refine hmay.mono ?_
  rintro e W1 ⟨rfl, b1⟩
  have h1 := h.keep b1
  clear hmay
  have c1 := h1.cell.cell (o := 1) rfl
  have c2 := h1.cell.cell (o := 2) rfl
  have hlk := store_lookup h1 lo
  obtain ⟨tl, tr, sl, hget, k1, k2, k3, k4⟩ := S.get_form h lo
  rw [hget] at hlk
  simp only [stV] at hlk
  have Hget := hid hget
  clear hget
  have hfld : (Instr.field 184 (.agg #[.int .i64 tl, .int .i64 tr, .bool sl]) 1).run Tryz.prog W1 = .ok (.int .i64 tr) W1 := by kernel_rfl
  obtain ⟨ov, hls, hbo, hou⟩ := store_slot_get h1 (lo, po)
  have hsl := h1.slots
  simp only [encS] at hls
  have Hb := hid b1
  have Hbo := hid hbo
  clear b1 hbo hou
  by_cases hp : po < tr
  · have HF := hid (show getF S lo po = (32, []) by unfold getF; rw [Hget.out, if_pos hp])
    clear hsl
    cases hs : S.slots (lo, po) with
    | none =>
      rw [hs] at hls
      simp only [Option.isSome_none] at hls
      clear hs
      go_wp2_with fail
      go_ret2
      rw [HF.out]
      exact ⟨_, rfl, Own8.nil _ _ _, Hb.out⟩
    | some l =>
      rw [hs] at hls
      simp only [Option.isSome_some] at hls
      clear hs
      go_wp2_with fail
      go_ret2
      rw [HF.out]
      exact ⟨_, rfl, Own8.nil _ _ _, Hb.out⟩
  · have hp2 : tr ≤ po := by omega
    cases hs : S.slots (lo, po) with
    | none =>
      have HF := hid (show getF S lo po = (3, []) by unfold getF; rw [Hget.out, if_neg hp, hs])
      clear hsl
      rw [hs] at hls
      simp only [Option.isSome_none] at hls
      clear hs
      go_wp2_with fail
      go_ret2
      rw [HF.out]
      exact ⟨_, rfl, Own8.nil _ _ _, Hb.out⟩
    | some l =>
      have HF := hid (show getF S lo po = (0, l) by unfold getF; rw [Hget.out, if_neg hp, hs])
      have hl : l.length ≤ 65536 := by
        obtain ⟨es, c, hm, hr, hv⟩ := hsl
        have := hr (lo, po)
        rw [hs] at this
        obtain ⟨e, he, hk⟩ := List.any_eq_true.1 this.symm
        simp only [decide_eq_true_eq] at hk
        obtain ⟨l', q1, _, q3⟩ := hv e he
        rw [← hk, hs] at q1
        cases q1
        exact q3
      have hbo : Bs W1 ov l := by have := Hbo.out; rw [hs] at this; exact this
      rw [hs] at hls
      simp only [Option.isSome_some] at hls
      have hcl := hid (slices_Clone ov l W1 hbo (by omega))
      clear hs hsl hbo Hbo
      go_wp2_with fail
      refine hcl.out.mono ?_
      rintro e w' ⟨v', rfl, _, ho, hb⟩
      have HO := hid (And.intro ho hb)
      clear ho hb
      go_wp2_with fail
      go_ret2
      rw [HF.out]
      exact ⟨_, rfl, HO.out.1.mono Hb.out.size, Hb.out.trans (HO.out.2.mono Hb.out.size)⟩

set_option maxRecDepth 100000 in
set_option maxHeartbeats 1600000 in
theorem store_Put_much (h : StAt W q S D) (lo po : Int) (a : Option Addr) (n c : Nat) (repair : Bool) (hn : 65536 < n) (hn2 : n ≤ 9223372036854775807) (l0 : 0 ≤ lo) (l1 : lo < 281474976710656) (p0 : 0 ≤ po) (p1 : po ≤ 4095) :
    Calls Tryz.prog 123 #[.pointer (some ⟨q.s, 0, none⟩), .int .i64 lo, .int .i64 po, .slice a n c, .bool repair] W fun e w' => e = .returned (.int .i64 6) ∧ Below W.heap.size W w' := by
  have hmay := store_may h lo po 4095
  rw [if_pos ⟨l0, l1, p0, p1⟩] at hmay
  go_enter Tryz.func123, Tryz.ntmps123
  go_wp2_with fail
  refine hmay.mono ?_
  rintro e W1 ⟨rfl, b1⟩
  have hd1 : decide ((n : Int) > 65536) = true := decide_eq_true (by omega)
  have hd2 : (65536 : Int) < (n : Int) := by omega
  clear hmay
  go_wp2_with fail
  go_ret
  exact ⟨rfl, b1⟩
end
end Go.Proofs.YtnbeagcmfcdklaaGreat

/-! What Get tells, as a number. -/
namespace Go.Proofs.YtnbeagcmfcdklaaGreat
open Go.RowKit

def tailF (S : St) (lo : Int) : Int := max (S.get lo).1 (S.get lo).2.1
theorem getF_code (S : St) (lo po : Int) : ((getF S lo po).1 = 32 ∧ po < (S.get lo).2.1) ∨ (getF S lo po).1 = 3 ∨ (getF S lo po).1 = 0 := by
  unfold getF
  by_cases h : po < (S.get lo).2.1
  · rw [if_pos h]; exact .inl ⟨rfl, h⟩
  · rw [if_neg h]
    cases S.slots (lo, po) with
    | none => exact .inr (.inl rfl)
    | some l => exact .inr (.inr rfl)
section
variable {W : World} {q : StP} {S : St} {D : Dk}
set_option maxRecDepth 100000 in
set_option maxHeartbeats 1600000 in
theorem store_Put_arg (h : StAt W q S D) (lo po : Int) (v : Value) (repair : Bool) (hp : 4095 < po) :
    Calls Tryz.prog 123 #[.pointer (some ⟨q.s, 0, none⟩), .int .i64 lo, .int .i64 po, v, .bool repair] W fun e w' => e = .returned (.int .i64 1) ∧ Below W.heap.size W w' := by
  have hmay := store_may h lo po 4095
  rw [if_neg (by omega)] at hmay
  go_enter Tryz.func123, Tryz.ntmps123
  go_wp2_with fail
  refine hmay.mono ?_
  rintro e W1 ⟨rfl, b1⟩
  clear hmay
  go_wp2_with fail
  go_ret
  exact ⟨rfl, b1⟩
end
end Go.Proofs.YtnbeagcmfcdklaaGreat
