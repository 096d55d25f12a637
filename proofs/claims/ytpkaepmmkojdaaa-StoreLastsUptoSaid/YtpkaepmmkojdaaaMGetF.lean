import Derived.Test.YtpkaepmmkojdaaaMSSeal
/-! Package store, on: Get. -/
namespace Go.Proofs.Ytpkaepmmkojdaaa
open Go.RowKit

section
variable {W : World} {q : StP} {S : St} {D : Dk}
/-- What a slot tells: the code, the data. -/
def getF (S : St) (lo po : Int) : Int × List UInt8 :=
  if po < (S.get lo).2.1 then (32, []) else match S.slots (lo, po) with | none => (3, []) | some l => (0, l)

set_option maxRecDepth 100000 in
set_option maxHeartbeats 1600000 in
theorem store_Get (h : StAt W q S D) (lo po : Int) (l0 : 0 ≤ lo) (l1 : lo < 281474976710656) (p0 : 0 ≤ po) (p1 : po ≤ 4095) :
    Calls Try.prog 32 #[.pointer (some ⟨q.s, 0, none⟩), .int .i64 lo, .int .i64 po] W fun e w' => ∃ v, e = .returned (.tuple #[v, .int .i64 (getF S lo po).1]) ∧ Own8 w' W.heap.size 5 v (getF S lo po).2 ∧ Below W.heap.size W w' := by
  have hmay := store_may h lo po 4095
  rw [if_pos ⟨l0, l1, p0, p1⟩] at hmay
  go_enter Try.func32, Try.ntmps32
  go_wp2_with fail
  refine hmay.mono ?_
  rintro e W1 ⟨rfl, b1⟩
  have h1 := h.keep b1
  clear hmay
  have c1 := h1.cell.cell (o := 1) rfl
  have c2 := h1.cell.cell (o := 2) rfl
  have hlk := store_lookup h1 lo
  obtain ⟨tl, tr, sl, hget, k1, k2, k3, k4⟩ := S.get_form h lo
  rw [hget] at hlk
  simp only [stV] at hlk
  have Hget := hid hget
  clear hget
  have hfld : (Instr.field 93 (.agg #[.int .i64 tl, .int .i64 tr, .bool sl]) 1).run Try.prog W1 = .ok (.int .i64 tr) W1 := by kernel_rfl
  obtain ⟨ov, hls, hbo, hou⟩ := store_slot_get h1 (lo, po)
  have hsl := h1.slots
  simp only [encS] at hls
  have Hb := hid b1
  have Hbo := hid hbo
  clear b1 hbo hou
  by_cases hp : po < tr
  · have HF := hid (show getF S lo po = (32, []) by unfold getF; rw [Hget.out, if_pos hp])
    clear hsl
    cases hs : S.slots (lo, po) with
    | none =>
      rw [hs] at hls
      simp only [Option.isSome_none] at hls
      clear hs
      go_wp2_with fail
      go_ret2
      rw [HF.out]
      exact ⟨_, rfl, Own8.nil _ _ _, Hb.out⟩
    | some l =>
      rw [hs] at hls
      simp only [Option.isSome_some] at hls
      clear hs
      go_wp2_with fail
      go_ret2
      rw [HF.out]
      exact ⟨_, rfl, Own8.nil _ _ _, Hb.out⟩
  · have hp2 : tr ≤ po := by omega
    cases hs : S.slots (lo, po) with
    | none =>
      have HF := hid (show getF S lo po = (3, []) by unfold getF; rw [Hget.out, if_neg hp, hs])
      clear hsl
      rw [hs] at hls
      simp only [Option.isSome_none] at hls
      clear hs
      go_wp2_with fail
      go_ret2
      rw [HF.out]
      exact ⟨_, rfl, Own8.nil _ _ _, Hb.out⟩
    | some l =>
      have HF := hid (show getF S lo po = (0, l) by unfold getF; rw [Hget.out, if_neg hp, hs])
      have hl : l.length ≤ 65536 := by
        obtain ⟨es, c, hm, hr, hv⟩ := hsl
        have := hr (lo, po)
        rw [hs] at this
        obtain ⟨e, he, hk⟩ := List.any_eq_true.1 this.symm
        simp only [decide_eq_true_eq] at hk
        obtain ⟨l', q1, _, q3⟩ := hv e he
        rw [← hk, hs] at q1
        cases q1
        exact q3
      have hbo : Bs W1 ov l := by have := Hbo.out; rw [hs] at this; exact this
      rw [hs] at hls
      simp only [Option.isSome_some] at hls
      have hcl := hid (slices_Clone ov l W1 hbo (by omega))
      clear hs hsl hbo Hbo
      go_wp2_with fail
      refine hcl.out.mono ?_
      rintro e w' ⟨v', rfl, _, ho, hb⟩
      have HO := hid (And.intro ho hb)
      clear ho hb
      go_wp2_with fail
      go_ret2
      rw [HF.out]
      exact ⟨_, rfl, HO.out.1.mono Hb.out.size, Hb.out.trans (HO.out.2.mono Hb.out.size)⟩

set_option maxRecDepth 100000 in
set_option maxHeartbeats 1600000 in
theorem store_Put_much (h : StAt W q S D) (lo po : Int) (a : Option Addr) (n c : Nat) (repair : Bool) (hn : 65536 < n) (hn2 : n ≤ 9223372036854775807) (l0 : 0 ≤ lo) (l1 : lo < 281474976710656) (p0 : 0 ≤ po) (p1 : po ≤ 4095) :
    Calls Try.prog 21 #[.pointer (some ⟨q.s, 0, none⟩), .int .i64 lo, .int .i64 po, .slice a n c, .bool repair] W fun e w' => e = .returned (.int .i64 6) ∧ Below W.heap.size W w' := by
  have hmay := store_may h lo po 4095
  rw [if_pos ⟨l0, l1, p0, p1⟩] at hmay
  go_enter Try.func21, Try.ntmps21
  go_wp2_with fail
  refine hmay.mono ?_
  rintro e W1 ⟨rfl, b1⟩
  have hd1 : decide ((n : Int) > 65536) = true := decide_eq_true (by omega)
  have hd2 : (65536 : Int) < (n : Int) := by omega
  clear hmay
  go_wp2_with fail
  go_ret
  exact ⟨rfl, b1⟩
end
end Go.Proofs.Ytpkaepmmkojdaaa

/-! What Get tells, as a number. -/
namespace Go.Proofs.Ytpkaepmmkojdaaa
open Go.RowKit

def tailF (S : St) (lo : Int) : Int := max (S.get lo).1 (S.get lo).2.1
theorem getF_code (S : St) (lo po : Int) : ((getF S lo po).1 = 32 ∧ po < (S.get lo).2.1) ∨ (getF S lo po).1 = 3 ∨ (getF S lo po).1 = 0 := by
  unfold getF
  by_cases h : po < (S.get lo).2.1
  · rw [if_pos h]; exact .inl ⟨rfl, h⟩
  · rw [if_neg h]
    cases S.slots (lo, po) with
    | none => exact .inr (.inl rfl)
    | some l => exact .inr (.inr rfl)
section
variable {W : World} {q : StP} {S : St} {D : Dk}
set_option maxRecDepth 100000 in
set_option maxHeartbeats 1600000 in
theorem store_Put_arg (h : StAt W q S D) (lo po : Int) (v : Value) (repair : Bool) (hp : 4095 < po) :
    Calls Try.prog 21 #[.pointer (some ⟨q.s, 0, none⟩), .int .i64 lo, .int .i64 po, v, .bool repair] W fun e w' => e = .returned (.int .i64 1) ∧ Below W.heap.size W w' := by
  have hmay := store_may h lo po 4095
  rw [if_neg (by omega)] at hmay
  go_enter Try.func21, Try.ntmps21
  go_wp2_with fail
  refine hmay.mono ?_
  rintro e W1 ⟨rfl, b1⟩
  clear hmay
  go_wp2_with fail
  go_ret
  exact ⟨rfl, b1⟩
end
end Go.Proofs.Ytpkaepmmkojdaaa
