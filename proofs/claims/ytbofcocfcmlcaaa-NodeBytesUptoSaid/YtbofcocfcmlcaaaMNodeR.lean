import Derived.Test.YtbofcocfcmlcaaaMKnows
import Derived.Test.YtbofcocfcmlcaaaMRegionW
import Derived.Test.YtbofcocfcmlcaaaMSlices
import Derived.Test.YtbofcocfcmlcaaaMRefA
import Derived.BigQuiet
/-! Package store, on: Trim, Get, Sealed, Trimmed; Put of too much. -/
namespace Go.Proofs.Ytbofcocfcmlcaaa
open Go.RowKit

/-- What a slot tells: the code, the data. -/
def getF (S : St) (lo po : Int) : Int × List UInt8 :=
  if po < (S.get lo).2.1 then (32, []) else match S.slots (lo, po) with | none => (3, []) | some l => (0, l)

section
variable {W : World} {q : StP} {S S1 : St} {D : Dk}

set_option maxRecDepth 100000 in
set_option maxHeartbeats 1600000 in
theorem store_Trim (h : StAt W q S D) (hon : On S D) (lo po : Int) (l0 : 0 ≤ lo) (l1 : lo < 281474976710656) (p0 : 0 ≤ po) (p1 : po ≤ 4096) :
    Calls Try.prog 43 #[.pointer (some ⟨q.s, 0, none⟩), .int .i64 lo, .int .i64 po] W fun e w' => e = .returned (.int .i64 (trimF S D lo po).1) ∧ (∃ q', StAt w' q' (trimF S D lo po).2.1 (trimF S D lo po).2.2 ∧ Went q q' W.heap.size) ∧ Ext q.own W w' := by
  have hmay := store_may h lo po 4096
  rw [if_pos ⟨l0, l1, p0, p1⟩] at hmay
  go_enter Try.func43, Try.ntmps43
  go_wp2_with fail
  refine hmay.mono ?_
  rintro e W1 ⟨rfl, b1⟩
  have h1 := h.keep b1
  clear hmay
  go_wp2_with fail
  refine (store_down h1).mono ?_
  rintro e W2 ⟨rfl, b2⟩
  rw [hon.fallen, hon.off]
  have h2 := h1.keep b2
  have hb2 := b1.trans (b2.mono b1.size)
  have c2 := h2.cell.cell (o := 2) rfl
  have hlk := store_lookup h2 lo
  clear h1 b1 b2
  obtain ⟨tl, tr, sl, hget, k1, k2, k3, k4⟩ := S.get_form h lo
  rw [hget] at hlk
  simp only [stV] at hlk
  have Hget := hid hget
  clear hget
  simp only [Bool.or_self]
  have hfld : (Instr.field 116 (.agg #[.int .i64 tl, .int .i64 tr, .bool sl]) 1).run Try.prog W2 = .ok (.int .i64 tr) W2 := by kernel_rfl
  have hwr := hid (store_write_trim h2 hon lo po l0 l1 p0 (by omega))
  have Hb := hid (And.intro h2 hb2)
  clear h2 hb2
  by_cases hp : po ≤ tr
  · have HF := hid (show trimF S D lo po = (0, S, D) by unfold trimF; rw [Hget.out, if_pos hp])
    go_wp2_with fail
    go_ret
    rw [HF.out]
    exact ⟨rfl, ⟨q, Hb.out.1, Went.refl _ _⟩, Ext.ofBelow Hb.out.2⟩
  · have HF := hid (show trimF S D lo po = writeF S (applyTrim S lo po) D 3 lo po [] by unfold trimF; rw [Hget.out, if_neg hp])
    have hp2 : tr < po := by omega
    go_wp2_with fail
    refine hwr.out.mono ?_
    rintro e w' hpost
    obtain ⟨rfl, ⟨q', a1, a2⟩, a3⟩ := hpost
    go_wp2_with fail
    go_ret
    rw [HF.out]
    exact ⟨rfl, ⟨q', a1, a2.le Hb.out.2.size⟩, (Ext.ofBelow Hb.out.2 : Ext q.own W _).trans' a3⟩

set_option maxRecDepth 100000 in
set_option maxHeartbeats 1600000 in
theorem store_Get (h : StAt W q S D) (lo po : Int) (l0 : 0 ≤ lo) (l1 : lo < 281474976710656) (p0 : 0 ≤ po) (p1 : po ≤ 4095) :
    Calls Try.prog 41 #[.pointer (some ⟨q.s, 0, none⟩), .int .i64 lo, .int .i64 po] W fun e w' => ∃ v, e = .returned (.tuple #[v, .int .i64 (getF S lo po).1]) ∧ Own8 w' W.heap.size 5 v (getF S lo po).2 ∧ Below W.heap.size W w' := by
  have hmay := store_may h lo po 4095
  rw [if_pos ⟨l0, l1, p0, p1⟩] at hmay
  go_enter Try.func41, Try.ntmps41
  go_wp2_with fail
  refine hmay.mono ?_
  rintro e W1 ⟨rfl, b1⟩
  have h1 := h.keep b1
  clear hmay
  have c1 := h1.cell.cell (o := 1) rfl
  have c2 := h1.cell.cell (o := 2) rfl
  have hlk := store_lookup h1 lo
  obtain ⟨tl, tr, sl, hget, k1, k2, k3, k4⟩ := S.get_form h lo
  rw [hget] at hlk
  simp only [stV] at hlk
  have Hget := hid hget
  clear hget
  have hfld : (Instr.field 116 (.agg #[.int .i64 tl, .int .i64 tr, .bool sl]) 1).run Try.prog W1 = .ok (.int .i64 tr) W1 := by kernel_rfl
  obtain ⟨ov, hls, hbo, hou⟩ := store_slot_get h1 (lo, po)
  have hsl := h1.slots
  simp only [encS] at hls
  have Hb := hid b1
  have Hbo := hid hbo
  clear b1 hbo hou
  by_cases hp : po < tr
  · have HF := hid (show getF S lo po = (32, []) by unfold getF; rw [Hget.out, if_pos hp])
    clear hsl
    cases hs : S.slots (lo, po) with
    | none =>
      rw [hs] at hls
      simp only [Option.isSome_none] at hls
      clear hs
      go_wp2_with fail
      go_ret2
      rw [HF.out]
      exact ⟨_, rfl, Own8.nil _ _ _, Hb.out⟩
    | some l =>
      rw [hs] at hls
      simp only [Option.isSome_some] at hls
      clear hs
      go_wp2_with fail
      go_ret2
      rw [HF.out]
      exact ⟨_, rfl, Own8.nil _ _ _, Hb.out⟩
  · have hp2 : tr ≤ po := by omega
    cases hs : S.slots (lo, po) with
    | none =>
      have HF := hid (show getF S lo po = (3, []) by unfold getF; rw [Hget.out, if_neg hp, hs])
      clear hsl
      rw [hs] at hls
      simp only [Option.isSome_none] at hls
      clear hs
      go_wp2_with fail
      go_ret2
      rw [HF.out]
      exact ⟨_, rfl, Own8.nil _ _ _, Hb.out⟩
    | some l =>
      have HF := hid (show getF S lo po = (0, l) by unfold getF; rw [Hget.out, if_neg hp, hs])
      have hl : l.length ≤ 65536 := by
        obtain ⟨es, c, hm, hr, hv⟩ := hsl
        have := hr (lo, po)
        rw [hs] at this
        obtain ⟨e, he, hk⟩ := List.any_eq_true.1 this.symm
        simp only [decide_eq_true_eq] at hk
        obtain ⟨l', q1, _, q3⟩ := hv e he
        rw [← hk, hs] at q1
        cases q1
        exact q3
      have hbo : Bs W1 ov l := by have := Hbo.out; rw [hs] at this; exact this
      rw [hs] at hls
      simp only [Option.isSome_some] at hls
      have hcl := hid (slices_Clone ov l W1 hbo (by omega))
      clear hs hsl hbo Hbo
      go_wp2_with fail
      refine hcl.out.mono ?_
      rintro e w' ⟨v', rfl, _, ho, hb⟩
      have HO := hid (And.intro ho hb)
      clear ho hb
      go_wp2_with fail
      go_ret2
      rw [HF.out]
      exact ⟨_, rfl, HO.out.1.mono Hb.out.size, Hb.out.trans (HO.out.2.mono Hb.out.size)⟩

set_option maxRecDepth 100000 in
set_option maxHeartbeats 1600000 in
theorem store_Trimmed (h : StAt W q S D) (lo : Int) :
    Calls Try.prog 44 #[.pointer (some ⟨q.s, 0, none⟩), .int .i64 lo] W fun e w' => e = .returned (.int .i64 (S.get lo).2.1) ∧ Below W.heap.size W w' := by
  go_enter Try.func44, Try.ntmps44
  go_wp2_with fail
  refine (store_state h lo).mono ?_
  rintro e W1 ⟨rfl, b1⟩
  obtain ⟨tl, tr, sl, hget, k1, k2, k3, k4⟩ := S.get_form h lo
  rw [hget]
  simp only [stV]
  have Hget := hid hget
  clear hget
  have hfld : (Instr.field 116 (.agg #[.int .i64 tl, .int .i64 tr, .bool sl]) 1).run Try.prog W1 = .ok (.int .i64 tr) W1 := by kernel_rfl
  go_wp2_with fail
  go_ret
  rw [Hget.out]
  exact ⟨rfl, b1⟩

set_option maxRecDepth 100000 in
set_option maxHeartbeats 1600000 in
theorem store_Sealed (h : StAt W q S D) (lo : Int) :
    Calls Try.prog 46 #[.pointer (some ⟨q.s, 0, none⟩), .int .i64 lo] W fun e w' => e = .returned (.bool (S.get lo).2.2) ∧ Below W.heap.size W w' := by
  go_enter Try.func46, Try.ntmps46
  go_wp2_with fail
  refine (store_state h lo).mono ?_
  rintro e W1 ⟨rfl, b1⟩
  obtain ⟨tl, tr, sl, hget, k1, k2, k3, k4⟩ := S.get_form h lo
  rw [hget]
  simp only [stV]
  have Hget := hid hget
  clear hget
  have hfld : (Instr.field 116 (.agg #[.int .i64 tl, .int .i64 tr, .bool sl]) 2).run Try.prog W1 = .ok (.bool sl) W1 := by kernel_rfl
  go_wp2_with fail
  go_ret
  rw [Hget.out]
  exact ⟨rfl, b1⟩

set_option maxRecDepth 100000 in
set_option maxHeartbeats 1600000 in
theorem store_Put_much (h : StAt W q S D) (lo po : Int) (a : Option Addr) (n c : Nat) (repair : Bool) (hn : 65536 < n) (hn2 : n ≤ 9223372036854775807) (l0 : 0 ≤ lo) (l1 : lo < 281474976710656) (p0 : 0 ≤ po) (p1 : po ≤ 4095) :
    Calls Try.prog 18 #[.pointer (some ⟨q.s, 0, none⟩), .int .i64 lo, .int .i64 po, .slice a n c, .bool repair] W fun e w' => e = .returned (.int .i64 6) ∧ Below W.heap.size W w' := by
  have hmay := store_may h lo po 4095
  rw [if_pos ⟨l0, l1, p0, p1⟩] at hmay
  go_enter Try.func18, Try.ntmps18
  go_wp2_with fail
  refine hmay.mono ?_
  rintro e W1 ⟨rfl, b1⟩
  have hd1 : decide ((n : Int) > 65536) = true := decide_eq_true (by omega)
  have hd2 : (65536 : Int) < (n : Int) := by omega
  clear hmay
  go_wp2_with fail
  go_ret
  exact ⟨rfl, b1⟩
end

section
variable {B : Nat} {W : World} {q : StP} {S : St} {D : Dk}
theorem run_Trim (r : Run B W q S D) (hB : B ≤ W.heap.size) (lo po : Int) (l0 : 0 ≤ lo) (l1 : lo < 281474976710656) (p0 : 0 ≤ po) (p1 : po ≤ 4096) :
    Calls Try.prog 43 #[.pointer (some ⟨q.s, 0, none⟩), .int .i64 lo, .int .i64 po] W fun e w' => e = .returned (.int .i64 (trimF S D lo po).1) ∧ (∃ q', Run B w' q' (trimF S D lo po).2.1 (trimF S D lo po).2.2 ∧ q'.s = q.s) ∧ Below B W w' := by
  refine (store_Trim r.at_ r.on lo po l0 l1 p0 p1).mono ?_
  rintro e w' ⟨rfl, ⟨q', h1, h2⟩, hx⟩
  exact ⟨rfl, ⟨q', r.went hB h1 h2 (trimF_on r.on lo po), h2.1⟩, r.below hB hx⟩
end

end Go.Proofs.Ytbofcocfcmlcaaa

/-! What Get tells, as a number. -/
namespace Go.Proofs.Ytbofcocfcmlcaaa
open Go.RowKit

def tailF (S : St) (lo : Int) : Int := max (S.get lo).1 (S.get lo).2.1
theorem getF_code (S : St) (lo po : Int) : ((getF S lo po).1 = 32 ∧ po < (S.get lo).2.1) ∨ (getF S lo po).1 = 3 ∨ (getF S lo po).1 = 0 := by
  unfold getF
  by_cases h : po < (S.get lo).2.1
  · rw [if_pos h]; exact .inl ⟨rfl, h⟩
  · rw [if_neg h]
    cases S.slots (lo, po) with
    | none => exact .inr (.inl rfl)
    | some l => exact .inr (.inr rfl)
section
variable {W : World} {q : StP} {S : St} {D : Dk}
set_option maxRecDepth 100000 in
set_option maxHeartbeats 1600000 in
theorem store_Put_arg (h : StAt W q S D) (lo po : Int) (v : Value) (repair : Bool) (hp : 4095 < po) :
    Calls Try.prog 18 #[.pointer (some ⟨q.s, 0, none⟩), .int .i64 lo, .int .i64 po, v, .bool repair] W fun e w' => e = .returned (.int .i64 1) ∧ Below W.heap.size W w' := by
  have hmay := store_may h lo po 4095
  rw [if_neg (by omega)] at hmay
  go_enter Try.func18, Try.ntmps18
  go_wp2_with fail
  refine hmay.mono ?_
  rintro e W1 ⟨rfl, b1⟩
  clear hmay
  go_wp2_with fail
  go_ret
  exact ⟨rfl, b1⟩
end
end Go.Proofs.Ytbofcocfcmlcaaa

/-! Package node: which requests and replies may be. -/
namespace Go.Proofs.Ytbofcocfcmlcaaa
open Go.RowKit

def rightB (k lo po : Int) (n : Nat) : Bool := decide (1 ≤ k ∧ k < 7 ∧ 0 ≤ lo ∧ lo < 281474976710656 ∧ 0 ≤ po ∧ po ≤ 4096 ∧ n ≤ 65504 ∧ (k = 1 ∨ k = 2 ∨ (n = 0 ∧ (k = 3 ∨ k = 5 → po = 0))))
def tellsB (e tl : Int) (n : Nat) : Bool := decide (0 ≤ e ∧ e ≤ 255 ∧ 0 ≤ tl ∧ tl ≤ 4096 ∧ n ≤ 65504)

theorem ret_bool {a b : Bool} (h : a = b) : Ending.returned (.bool a) = .returned (.bool b) := by rw [h]

set_option maxRecDepth 100000 in
set_option maxHeartbeats 1600000 in
theorem request_right (k lo po : Int) (av : Option Addr) (n cv : Nat) (W : World) (hn : n ≤ 9223372036854775807) :
    Calls Try.prog 64 #[.agg #[.int .i64 k, .int .i64 lo, .int .i64 po, .slice av n cv]] W fun e w' => e = .returned (.bool (rightB k lo po n)) ∧ Below W.heap.size W w' := by
  go_enter Try.func64, Try.ntmps64
  go_wp2_with fail
  all_goals go_ret
  all_goals (refine ⟨ret_bool (Bool.eq_iff_iff.2 ?_), (Below.refl _ _).alloc (Nat.le_refl _) _⟩)
  all_goals (try simp only [beq_iff_eq, beq_eq_false_iff_ne, ne_eq] at *)
  all_goals (simp [rightB]; omega)

set_option maxRecDepth 100000 in
set_option maxHeartbeats 1600000 in
theorem reply_right (er tl : Int) (sl : Bool) (av : Option Addr) (n cv : Nat) (W : World) (hn : n ≤ 9223372036854775807) :
    Calls Try.prog 71 #[.agg #[.int .i64 er, .int .i64 tl, .bool sl, .slice av n cv]] W fun e w' => e = .returned (.bool (tellsB er tl n)) ∧ Below W.heap.size W w' := by
  go_enter Try.func71, Try.ntmps71
  go_wp2_with fail
  all_goals go_ret
  all_goals (refine ⟨ret_bool (Bool.eq_iff_iff.2 ?_), (Below.refl _ _).alloc (Nat.le_refl _) _⟩)
  all_goals (try simp only [beq_iff_eq, beq_eq_false_iff_ne, ne_eq] at *)
  all_goals (simp [tellsB]; omega)
end Go.Proofs.Ytbofcocfcmlcaaa
