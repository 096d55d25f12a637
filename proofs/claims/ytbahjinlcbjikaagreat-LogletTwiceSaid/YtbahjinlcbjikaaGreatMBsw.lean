import Derived.Test.YtbahjinlcbjikaaGreatMSPut
import Derived.Test.YtbahjinlcbjikaaGreatBase
/-! Package store, on: state, Tail. -/
namespace Go.Proofs.YtbahjinlcbjikaaGreat
open Go.RowKit

section
variable {W : World} {q : StP} {S : St} {D : Dk}
theorem size_state : (Tryz.prog.info? 203).map (·.size) = some 3 := by kernel_rfl

set_option maxRecDepth 100000 in
set_option maxHeartbeats 1600000 in
theorem store_state (h : StAt W q S D) (lo : Int) :
    Calls Tryz.prog 126 #[.pointer (some ⟨q.s, 0, none⟩), .int .i64 lo] W fun e w' => e = .returned (stV (S.get lo)) ∧ Below W.heap.size W w' := by
  obtain ⟨tl, tr, sl, hget, k1, k2, k3, k4⟩ := S.get_form h lo
  have h1 := h.keep ((Below.refl _ W).alloc (Nat.le_refl _) (.cells #[.int .i64 0, .int .i64 0, .bool false] 203))
  have bX := Blk.new W #[.int .i64 0, .int .i64 0, .bool false] 203
  have b1 : Below W.heap.size W (W.alloc (.cells #[.int .i64 0, .int .i64 0, .bool false] 203)) := (Below.refl _ W).alloc (Nat.le_refl _) _
  have hno := store_none h1
  have hlk := store_lookup h1 lo
  rw [hget] at hlk
  simp only [stV] at hlk
  have c2 := h1.cell.cell (o := 2) rfl
  have Hget := hid hget
  clear hget h1
  obtain ⟨W1, hW1⟩ : ∃ W1, W.alloc (.cells #[.int .i64 0, .int .i64 0, .bool false] 203) = W1 := ⟨_, rfl⟩
  rw [hW1] at hno hlk c2 bX b1
  have x0 := bX.cell (o := 0) rfl
  have x1 := bX.cell (o := 1) rfl
  have x2 := bX.cell (o := 2) rfl
  have f0 := bX.free 0
  have f1 := bX.free 1
  have f2 := bX.free 2
  have bF := ((bX.set (o := 0) (.int .i64 tl)).set (o := 1) (.int .i64 tr)).set (o := 2) (.bool sl)
  simp only [List.setIfInBounds_toArray, List.set_cons_zero, List.set_cons_succ] at bF
  have bS : Below W.heap.size W (((W1.setCell ⟨W.heap.size, 0, none⟩ (.int .i64 tl)).setCell ⟨W.heap.size, 1, none⟩ (.int .i64 tr)).setCell ⟨W.heap.size, 2, none⟩ (.bool sl)) :=
    ((b1.setCell (p := ⟨W.heap.size, 0, none⟩) (by simp) _).setCell (p := ⟨W.heap.size, 1, none⟩) (by simp) _).setCell (p := ⟨W.heap.size, 2, none⟩) (by simp) _
  have HF := hid (And.intro bF bS)
  clear bF bS bX
  go_enter Tryz.func126, Tryz.ntmps126
  go_wp2_with fail
  refine hno.mono ?_
  rintro e W2 ⟨rfl, h2⟩
  subst h2
  go_wp2_with fail
  refine bodyPost_ret (results_cell_row rfl _ _ W.heap.size 203 _ (0, 0) _ rfl HF.out.1 Tryz.underlying203 rfl size_state) rfl ?_
  exact ⟨by rw [Hget.out]; rfl, HF.out.2⟩

set_option maxRecDepth 100000 in
set_option maxHeartbeats 1600000 in
theorem store_Tail (h : StAt W q S D) (lo : Int) :
    Calls Tryz.prog 84 #[.pointer (some ⟨q.s, 0, none⟩), .int .i64 lo] W fun e w' => e = .returned (.int .i64 (max (S.get lo).1 (S.get lo).2.1)) ∧ Below W.heap.size W w' := by
  go_enter Tryz.func84, Tryz.ntmps84
  go_wp2_with fail
  refine (store_state h lo).mono ?_
  rintro e W1 ⟨rfl, b1⟩
  obtain ⟨tl, tr, sl, hget, k1, k2, k3, k4⟩ := S.get_form h lo
  rw [hget]
  simp only [stV]
  have Hget := hid hget
  clear hget
  have bz : Below W.heap.size W (W1.alloc (.cells #[.int .i64 tl, .int .i64 tr, .bool sl] 203)) := b1.alloc b1.size _
  have HB := hid bz
  clear bz
  by_cases hm : tl < tr
  · have hd : decide (tl < tr) = true := decide_eq_true hm
    go_wp2_with fail
    all_goals go_ret
    all_goals (rw [Hget.out]; exact ⟨by simp only []; rw [show max tl tr = tr from by omega]; rfl, HB.out⟩)
  · have hd : decide (tl < tr) = false := decide_eq_false hm
    go_wp2_with fail
    all_goals go_ret
    all_goals (rw [Hget.out]; exact ⟨by simp only []; rw [show max tl tr = tl from by omega]; rfl, HB.out⟩)
end
end Go.Proofs.YtbahjinlcbjikaaGreat

/-! Package store, on: Get. -/
namespace Go.Proofs.YtbahjinlcbjikaaGreat
open Go.RowKit

section
variable {W : World} {q : StP} {S : St} {D : Dk}
/-- What a slot tells: the code, the data. -/
def getF (S : St) (lo po : Int) : Int × List UInt8 :=
  if po < (S.get lo).2.1 then (32, []) else match S.slots (lo, po) with | none => (3, []) | some l => (0, l)

set_option maxRecDepth 100000 in
set_option maxHeartbeats 1600000 in
theorem store_Get (h : StAt W q S D) (lo po : Int) (l0 : 0 ≤ lo) (l1 : lo < 281474976710656) (p0 : 0 ≤ po) (p1 : po ≤ 4095) :
    Calls Tryz.prog 124 #[.pointer (some ⟨q.s, 0, none⟩), .int .i64 lo, .int .i64 po] W fun e w' => ∃ v, e = .returned (.tuple #[v, .int .i64 (getF S lo po).1]) ∧ Own8 w' W.heap.size 5 v (getF S lo po).2 ∧ Below W.heap.size W w' := by
  have hmay := store_may h lo po 4095
  rw [if_pos ⟨l0, l1, p0, p1⟩] at hmay
  go_enter Tryz.func124, Tryz.ntmps124
  go_wp2_with fail
  refine hmay.mono ?_
  rintro e W1 ⟨rfl, b1⟩
  have h1 := h.keep b1
  clear hmay
  have c1 := h1.cell.cell (o := 1) rfl
  have c2 := h1.cell.cell (o := 2) rfl
  have hlk := store_lookup h1 lo
  obtain ⟨tl, tr, sl, hget, k1, k2, k3, k4⟩ := S.get_form h lo
  rw [hget] at hlk
  simp only [stV] at hlk
  have Hget := hid hget
  clear hget
  have hfld : (Instr.field 203 (.agg #[.int .i64 tl, .int .i64 tr, .bool sl]) 1).run Tryz.prog W1 = .ok (.int .i64 tr) W1 := by kernel_rfl
  obtain ⟨ov, hls, hbo, hou⟩ := store_slot_get h1 (lo, po)
  have hsl := h1.slots
  simp only [encS] at hls
  have Hb := hid b1
  have Hbo := hid hbo
  clear b1 hbo hou
  by_cases hp : po < tr
  · have HF := hid (show getF S lo po = (32, []) by unfold getF; rw [Hget.out, if_pos hp])
    clear hsl
    cases hs : S.slots (lo, po) with
    | none =>
      rw [hs] at hls
      simp only [Option.isSome_none] at hls
      clear hs
      go_wp2_with fail
      go_ret2
      rw [HF.out]
      exact ⟨_, rfl, Own8.nil _ _ _, Hb.out⟩
    | some l =>
      rw [hs] at hls
      simp only [Option.isSome_some] at hls
      clear hs
      go_wp2_with fail
      go_ret2
      rw [HF.out]
      exact ⟨_, rfl, Own8.nil _ _ _, Hb.out⟩
  · have hp2 : tr ≤ po := by omega
    cases hs : S.slots (lo, po) with
    | none =>
      have HF := hid (show getF S lo po = (3, []) by unfold getF; rw [Hget.out, if_neg hp, hs])
      clear hsl
      rw [hs] at hls
      simp only [Option.isSome_none] at hls
      clear hs
      go_wp2_with fail
      go_ret2
      rw [HF.out]
      exact ⟨_, rfl, Own8.nil _ _ _, Hb.out⟩
    | some l =>
      have HF := hid (show getF S lo po = (0, l) by unfold getF; rw [Hget.out, if_neg hp, hs])
      have hl : l.length ≤ 65536 := by
        obtain ⟨es, c, hm, hr, hv⟩ := hsl
        have := hr (lo, po)
        rw [hs] at this
        obtain ⟨e, he, hk⟩ := List.any_eq_true.1 this.symm
        simp only [decide_eq_true_eq] at hk
        obtain ⟨l', q1, _, q3⟩ := hv e he
        rw [← hk, hs] at q1
        cases q1
        exact q3
      have hbo : Bs W1 ov l := by have := Hbo.out; rw [hs] at this; exact this
      rw [hs] at hls
      simp only [Option.isSome_some] at hls
      have hcl := hid (slices_Clone ov l W1 hbo (by omega))
      clear hs hsl hbo Hbo
      go_wp2_with fail
      refine hcl.out.mono ?_
      rintro e w' ⟨v', rfl, _, ho, hb⟩
      have HO := hid (And.intro ho hb)
      clear ho hb
      go_wp2_with fail
      go_ret2
      rw [HF.out]
      exact ⟨_, rfl, HO.out.1.mono Hb.out.size, Hb.out.trans (HO.out.2.mono Hb.out.size)⟩

set_option maxRecDepth 100000 in
set_option maxHeartbeats 1600000 in
theorem store_Put_much (h : StAt W q S D) (lo po : Int) (a : Option Addr) (n c : Nat) (repair : Bool) (hn : 65536 < n) (hn2 : n ≤ 9223372036854775807) (l0 : 0 ≤ lo) (l1 : lo < 281474976710656) (p0 : 0 ≤ po) (p1 : po ≤ 4095) :
    Calls Tryz.prog 122 #[.pointer (some ⟨q.s, 0, none⟩), .int .i64 lo, .int .i64 po, .slice a n c, .bool repair] W fun e w' => e = .returned (.int .i64 6) ∧ Below W.heap.size W w' := by
  have hmay := store_may h lo po 4095
  rw [if_pos ⟨l0, l1, p0, p1⟩] at hmay
  go_enter Tryz.func122, Tryz.ntmps122
  go_wp2_with fail
  refine hmay.mono ?_
  rintro e W1 ⟨rfl, b1⟩
  have hd1 : decide ((n : Int) > 65536) = true := decide_eq_true (by omega)
  have hd2 : (65536 : Int) < (n : Int) := by omega
  clear hmay
  go_wp2_with fail
  go_ret
  exact ⟨rfl, b1⟩
end
end Go.Proofs.YtbahjinlcbjikaaGreat

/-! What Get tells, as a number. -/
namespace Go.Proofs.YtbahjinlcbjikaaGreat
open Go.RowKit

def tailF (S : St) (lo : Int) : Int := max (S.get lo).1 (S.get lo).2.1
theorem getF_code (S : St) (lo po : Int) : ((getF S lo po).1 = 32 ∧ po < (S.get lo).2.1) ∨ (getF S lo po).1 = 3 ∨ (getF S lo po).1 = 0 := by
  unfold getF
  by_cases h : po < (S.get lo).2.1
  · rw [if_pos h]; exact .inl ⟨rfl, h⟩
  · rw [if_neg h]
    cases S.slots (lo, po) with
    | none => exact .inr (.inl rfl)
    | some l => exact .inr (.inr rfl)
section
variable {W : World} {q : StP} {S : St} {D : Dk}
set_option maxRecDepth 100000 in
set_option maxHeartbeats 1600000 in
theorem store_Put_arg (h : StAt W q S D) (lo po : Int) (v : Value) (repair : Bool) (hp : 4095 < po) :
    Calls Tryz.prog 122 #[.pointer (some ⟨q.s, 0, none⟩), .int .i64 lo, .int .i64 po, v, .bool repair] W fun e w' => e = .returned (.int .i64 1) ∧ Below W.heap.size W w' := by
  have hmay := store_may h lo po 4095
  rw [if_neg (by omega)] at hmay
  go_enter Tryz.func122, Tryz.ntmps122
  go_wp2_with fail
  refine hmay.mono ?_
  rintro e W1 ⟨rfl, b1⟩
  clear hmay
  go_wp2_with fail
  go_ret
  exact ⟨rfl, b1⟩
end
end Go.Proofs.YtbahjinlcbjikaaGreat

/-! Package store, on: Seal, Trim, state, Tail. -/
namespace Go.Proofs.YtbahjinlcbjikaaGreat
open Go.RowKit

def sealF (S : St) (D : Dk) (lo : Int) : Int × St × Dk := if (S.get lo).2.2 then (0, S, D) else writeF S (applySeal S lo) D 2 lo 0 []
def trimF (S : St) (D : Dk) (lo po : Int) : Int × St × Dk := if po ≤ (S.get lo).2.1 then (0, S, D) else writeF S (applyTrim S lo po) D 3 lo po []
theorem sealF_on {S : St} {D : Dk} (h : On S D) (lo : Int) : On (sealF S D lo).2.1 (sealF S D lo).2.2 := by
  unfold sealF
  split
  · exact h
  · exact writeF_on (S1 := applySeal S lo) h rfl 2 lo 0 []
theorem trimF_on {S : St} {D : Dk} (h : On S D) (lo po : Int) : On (trimF S D lo po).2.1 (trimF S D lo po).2.2 := by
  unfold trimF
  split
  · exact h
  · exact writeF_on (S1 := applyTrim S lo po) h rfl 3 lo po []

section
variable {W : World} {q : StP} {S S1 : St} {D : Dk}

theorem store_write_seal (h : StAt W q S D) (hon : On S D) (lo : Int) (l0 : 0 ≤ lo) (l1 : lo < 281474976710656) :
    Calls Tryz.prog 157 #[.pointer (some ⟨q.s, 0, none⟩), .agg #[.int .i64 2, .int .i64 lo, .int .i64 0, .slice none 0 0]] W fun e w' => e = .returned (.int .i64 (writeF S (applySeal S lo) D 2 lo 0 []).1) ∧ (∃ q', StAt w' q' (writeF S (applySeal S lo) D 2 lo 0 []).2.1 (writeF S (applySeal S lo) D 2 lo 0 []).2.2 ∧ Went q q' W.heap.size) ∧ Ext q.own W w' := by
  unfold writeF
  by_cases hfit : S.fin + chunks (entryB 2 lo 0 []) ≤ D.texts.length
  · rw [if_pos hfit]
    refine (store_write_ok (S1 := applySeal S lo) h hon.off hon.fuse hon.vers 2 lo 0 _ [] (Bs.nil W) (fun g hg => by simp [Value.ownBlock] at hg) (by simp) (by omega) (by omega) l0 l1 (by omega) (by omega) hfit rfl rfl ?_).mono ?_
    · intro D' W1 q1 hS1 _ hlen v1 hv1
      refine store_do_seal hS1 lo 0 v1 [] hv1 _ (chunks_entry 2 lo 0 []) (by rw [hlen]; exact hfit) rfl rfl ?_
      intro W2 hS2 hv2
      refine (store_seal hS2 2 lo 0 v1 [] hv2).mono ?_
      rintro e w' ⟨⟨v9, rfl⟩, h1, hx⟩
      exact ⟨⟨v9, rfl⟩, ⟨q1, h1, Moves.refl _ _⟩, hx.mono (fun b _ hb => .inr hb)⟩
    · rintro e w' ⟨rfl, ⟨q', h1, h2, h3, h4, h5, h6⟩, hx⟩
      exact ⟨rfl, ⟨q', h1, h2, h3, h4, h5, h6⟩, hx⟩
  · rw [if_neg hfit]
    refine (store_write_full h 2 lo 0 _ [] (Bs.nil W) (by simp) (by omega) (by omega) l0 l1 (by omega) (by omega) hfit).mono ?_
    rintro e w' ⟨rfl, hb⟩
    exact ⟨rfl, ⟨q, h.keep hb, Went.refl _ _⟩, Ext.ofBelow hb⟩

theorem store_write_trim (h : StAt W q S D) (hon : On S D) (lo po : Int) (l0 : 0 ≤ lo) (l1 : lo < 281474976710656) (p0 : 0 ≤ po) (p1 : po < 281474976710656) :
    Calls Tryz.prog 157 #[.pointer (some ⟨q.s, 0, none⟩), .agg #[.int .i64 3, .int .i64 lo, .int .i64 po, .slice none 0 0]] W fun e w' => e = .returned (.int .i64 (writeF S (applyTrim S lo po) D 3 lo po []).1) ∧ (∃ q', StAt w' q' (writeF S (applyTrim S lo po) D 3 lo po []).2.1 (writeF S (applyTrim S lo po) D 3 lo po []).2.2 ∧ Went q q' W.heap.size) ∧ Ext q.own W w' := by
  unfold writeF
  by_cases hfit : S.fin + chunks (entryB 3 lo po []) ≤ D.texts.length
  · rw [if_pos hfit]
    refine (store_write_ok (S1 := applyTrim S lo po) h hon.off hon.fuse hon.vers 3 lo po _ [] (Bs.nil W) (fun g hg => by simp [Value.ownBlock] at hg) (by simp) (by omega) (by omega) l0 l1 p0 p1 hfit rfl rfl ?_).mono ?_
    · intro D' W1 q1 hS1 _ hlen v1 hv1
      refine store_do_trim hS1 lo po v1 [] hv1 _ (chunks_entry 3 lo po []) (by rw [hlen]; exact hfit) rfl rfl ?_
      intro W2 hS2 hv2
      refine (store_trim hS2 3 lo po v1 [] hv2 p0 (by omega)).mono ?_
      rintro e w' ⟨⟨v9, rfl⟩, h1, hx⟩
      exact ⟨⟨v9, rfl⟩, ⟨q1, h1, Moves.refl _ _⟩, hx.mono (fun b _ hb => .inr hb)⟩
    · rintro e w' ⟨rfl, ⟨q', h1, h2, h3, h4, h5, h6⟩, hx⟩
      exact ⟨rfl, ⟨q', h1, h2, h3, h4, h5, h6⟩, hx⟩
  · rw [if_neg hfit]
    refine (store_write_full h 3 lo po _ [] (Bs.nil W) (by simp) (by omega) (by omega) l0 l1 p0 p1 hfit).mono ?_
    rintro e w' ⟨rfl, hb⟩
    exact ⟨rfl, ⟨q, h.keep hb, Went.refl _ _⟩, Ext.ofBelow hb⟩

set_option maxRecDepth 100000 in
set_option maxHeartbeats 1600000 in
theorem store_Seal (h : StAt W q S D) (hon : On S D) (lo : Int) (l0 : 0 ≤ lo) (l1 : lo < 281474976710656) :
    Calls Tryz.prog 123 #[.pointer (some ⟨q.s, 0, none⟩), .int .i64 lo] W fun e w' => e = .returned (.int .i64 (sealF S D lo).1) ∧ (∃ q', StAt w' q' (sealF S D lo).2.1 (sealF S D lo).2.2 ∧ Went q q' W.heap.size) ∧ Ext q.own W w' := by
  have hmay := store_may h lo 0 0
  rw [if_pos ⟨l0, l1, by omega, by omega⟩] at hmay
  go_enter Tryz.func123, Tryz.ntmps123
  go_wp2_with fail
  refine hmay.mono ?_
  rintro e W1 ⟨rfl, b1⟩
  have h1 := h.keep b1
  clear hmay
  go_wp2_with fail
  refine (store_down h1).mono ?_
  rintro e W2 ⟨rfl, b2⟩
  rw [hon.fallen, hon.off]
  have h2 := h1.keep b2
  have hb2 := b1.trans (b2.mono b1.size)
  have c2 := h2.cell.cell (o := 2) rfl
  have hlk := store_lookup h2 lo
  clear h1 b1 b2
  obtain ⟨tl, tr, sl, hget, k1, k2, k3, k4⟩ := S.get_form h lo
  rw [hget] at hlk
  simp only [stV] at hlk
  have Hget := hid hget
  clear hget
  simp only [Bool.or_self]
  have hfld : (Instr.field 203 (.agg #[.int .i64 tl, .int .i64 tr, .bool sl]) 2).run Tryz.prog W2 = .ok (.bool sl) W2 := by kernel_rfl
  have hwr := hid (store_write_seal h2 hon lo l0 l1)
  have Hb := hid (And.intro h2 hb2)
  clear h2 hb2
  cases sl
  · have HF := hid (show sealF S D lo = writeF S (applySeal S lo) D 2 lo 0 [] by unfold sealF; rw [Hget.out]; rfl)
    go_wp2_with fail
    refine hwr.out.mono ?_
    rintro e w' hpost
    obtain ⟨rfl, ⟨q', a1, a2⟩, a3⟩ := hpost
    go_wp2_with fail
    go_ret
    rw [HF.out]
    exact ⟨rfl, ⟨q', a1, a2.le Hb.out.2.size⟩, (Ext.ofBelow Hb.out.2 : Ext q.own W _).trans' a3⟩
  · have HF := hid (show sealF S D lo = (0, S, D) by unfold sealF; rw [Hget.out]; rfl)
    go_wp2_with fail
    go_ret
    rw [HF.out]
    exact ⟨rfl, ⟨q, Hb.out.1, Went.refl _ _⟩, Ext.ofBelow Hb.out.2⟩

end
end Go.Proofs.YtbahjinlcbjikaaGreat

/-! Package store, on: Trim, Sealed. -/
namespace Go.Proofs.YtbahjinlcbjikaaGreat
open Go.RowKit

section
variable {W : World} {q : StP} {S S1 : St} {D : Dk}

set_option maxRecDepth 100000 in
set_option maxHeartbeats 1600000 in
theorem store_Trim (h : StAt W q S D) (hon : On S D) (lo po : Int) (l0 : 0 ≤ lo) (l1 : lo < 281474976710656) (p0 : 0 ≤ po) (p1 : po ≤ 4096) :
    Calls Tryz.prog 125 #[.pointer (some ⟨q.s, 0, none⟩), .int .i64 lo, .int .i64 po] W fun e w' => e = .returned (.int .i64 (trimF S D lo po).1) ∧ (∃ q', StAt w' q' (trimF S D lo po).2.1 (trimF S D lo po).2.2 ∧ Went q q' W.heap.size) ∧ Ext q.own W w' := by
  have hmay := store_may h lo po 4096
  rw [if_pos ⟨l0, l1, p0, p1⟩] at hmay
  go_enter Tryz.func125, Tryz.ntmps125
  go_wp2_with fail
  refine hmay.mono ?_
  rintro e W1 ⟨rfl, b1⟩
  have h1 := h.keep b1
  clear hmay
  go_wp2_with fail
  refine (store_down h1).mono ?_
  rintro e W2 ⟨rfl, b2⟩
  rw [hon.fallen, hon.off]
  have h2 := h1.keep b2
  have hb2 := b1.trans (b2.mono b1.size)
  have c2 := h2.cell.cell (o := 2) rfl
  have hlk := store_lookup h2 lo
  clear h1 b1 b2
  obtain ⟨tl, tr, sl, hget, k1, k2, k3, k4⟩ := S.get_form h lo
  rw [hget] at hlk
  simp only [stV] at hlk
  have Hget := hid hget
  clear hget
  simp only [Bool.or_self]
  have hfld : (Instr.field 203 (.agg #[.int .i64 tl, .int .i64 tr, .bool sl]) 1).run Tryz.prog W2 = .ok (.int .i64 tr) W2 := by kernel_rfl
  have hwr := hid (store_write_trim h2 hon lo po l0 l1 p0 (by omega))
  have Hb := hid (And.intro h2 hb2)
  clear h2 hb2
  by_cases hp : po ≤ tr
  · have HF := hid (show trimF S D lo po = (0, S, D) by unfold trimF; rw [Hget.out, if_pos hp])
    go_wp2_with fail
    go_ret
    rw [HF.out]
    exact ⟨rfl, ⟨q, Hb.out.1, Went.refl _ _⟩, Ext.ofBelow Hb.out.2⟩
  · have HF := hid (show trimF S D lo po = writeF S (applyTrim S lo po) D 3 lo po [] by unfold trimF; rw [Hget.out, if_neg hp])
    have hp2 : tr < po := by omega
    go_wp2_with fail
    refine hwr.out.mono ?_
    rintro e w' hpost
    obtain ⟨rfl, ⟨q', a1, a2⟩, a3⟩ := hpost
    go_wp2_with fail
    go_ret
    rw [HF.out]
    exact ⟨rfl, ⟨q', a1, a2.le Hb.out.2.size⟩, (Ext.ofBelow Hb.out.2 : Ext q.own W _).trans' a3⟩

set_option maxRecDepth 100000 in
set_option maxHeartbeats 1600000 in
theorem store_Sealed (h : StAt W q S D) (lo : Int) :
    Calls Tryz.prog 85 #[.pointer (some ⟨q.s, 0, none⟩), .int .i64 lo] W fun e w' => e = .returned (.bool (S.get lo).2.2) ∧ Below W.heap.size W w' := by
  go_enter Tryz.func85, Tryz.ntmps85
  go_wp2_with fail
  refine (store_state h lo).mono ?_
  rintro e W1 ⟨rfl, b1⟩
  obtain ⟨tl, tr, sl, hget, k1, k2, k3, k4⟩ := S.get_form h lo
  rw [hget]
  simp only [stV]
  have Hget := hid hget
  clear hget
  have hfld : (Instr.field 203 (.agg #[.int .i64 tl, .int .i64 tr, .bool sl]) 2).run Tryz.prog W1 = .ok (.bool sl) W1 := by kernel_rfl
  go_wp2_with fail
  go_ret
  rw [Hget.out]
  exact ⟨rfl, b1⟩

end
end Go.Proofs.YtbahjinlcbjikaaGreat

/-! Bytes that came in inside of something else: an empty slice may lie anywhere. No program is named here. -/
namespace Go.Proofs.YtbahjinlcbjikaaGreat
open Go.RowKit

def BsW (w : World) (v : Value) (l : List UInt8) : Prop := Bs w v l ∨ (l = [] ∧ ∃ ad, v = .slice (some ad) 0 0)
theorem BsW.form {w : World} {v : Value} {l : List UInt8} (h : BsW w v l) : ∃ a c, v = .slice a l.length c := by
  rcases h with h | ⟨rfl, ad, rfl⟩
  · exact h.form
  · exact ⟨some ad, 0, rfl⟩
theorem BsW.keep {w w' : World} {v : Value} {l : List UInt8} (h : BsW w v l) (hb : Below w.heap.size w w') : BsW w' v l := h.imp (fun h => h.keep hb) id

theorem run_append8w {P : Program} {T E : TypeId} {i : TypeInfo} (ht : P.underlying T = some (.slice E)) (hi : P.info? E = some i) (hz : i.zero = some (.int .u8 0)) (hsz : i.size = 1) (hby : i.bytes = 1) (ty : TypeId)
    {w : World} {base : Nat} {v x : Value} {l m : List UInt8} (hown : Own8 w base E v l) (hx : BsW w x m) (hlen : l.length + m.length ≤ 140737488355328) (hbase : base ≤ w.heap.size) :
    ∃ v' w', (Builtin.append_ #[T, T] ty #[v, x]).run P w = .ok v' w' ∧ Own8 w' base E v' (l ++ m) ∧ w.grownBy w' v.ownBlock := by
  rcases hx with hx | ⟨rfl, ad, rfl⟩
  · obtain ⟨v', w', h1, h2, h3, _⟩ := run_append8 (P := P) ht hi hz hsz hby ty hown hx hlen hbase
    exact ⟨v', w', h1, h2, h3⟩
  · refine ⟨v, w, ?_, by simpa using hown, ⟨rfl, rfl, rfl, Nat.le_refl _, fun _ _ _ => rfl⟩⟩
    rcases hown.2 with ⟨rfl, _⟩ | ⟨g, cap, cur, rfl, _, _, hnc, _⟩
    · simp [Builtin.append_, run_underlying ht, sizeOf, typeInfo, hi, Builtin.lenOf, Builtin.firstCells, loadCells, loadCellsFrom]
    · simp [Builtin.append_, run_underlying ht, sizeOf, typeInfo, hi, Builtin.lenOf, Builtin.firstCells, hnc, storeCells, loadCells, loadCellsFrom]

theorem wpList_append8w {P : Program} {T E : TypeId} {i : TypeInfo} (ht : P.underlying T = some (.slice E)) (hi : P.info? E = some i) (hz : i.zero = some (.int .u8 0)) (hsz : i.size = 1) (hby : i.bytes = 1)
    {ops : Array Oper} {rest : List Oper} {o : Oper} {a : Act} {Q : Exit → Act → World → Prop} {w : World} (hgd : o.guard = none) (s y : Operand)
    (ho : o.op = .call { callee := .builtin .append, args := #[s, y], argTypes := #[T, T] })
    (base : Nat) {v x : Value} {l m : List UInt8} (hs : a.eval s = v) (hy : a.eval y = x) (hown : Own8 w base E v l) (hx : BsW w x m) (hlen : l.length + m.length ≤ 140737488355328) (hbase : base ≤ w.heap.size)
    (h : ∀ v' w', Own8 w' base E v' (l ++ m) → w.grownBy w' v.ownBlock → wpList P ops Q rest (a.put o.dst v') w') : wpList P ops Q (o :: rest) a w :=
  wpList_plain hgd fun K hK => by
    obtain ⟨v', w', hr, h2, h3⟩ := run_append8w (P := P) ht hi hz hsz hby o.type hown hx hlen hbase
    unfold Oper.wp execOp
    simp only [ho, resolve, invoke, builtin, Sem.run_bind, Sem.run_pure, Result.andThen_ok, List.map_toArray, List.map_cons, List.map_nil, hs, hy, hr]
    exact hK _ _ (h v' w' h2 h3)
end Go.Proofs.YtbahjinlcbjikaaGreat
