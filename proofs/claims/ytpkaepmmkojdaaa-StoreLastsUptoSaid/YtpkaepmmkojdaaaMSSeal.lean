import Derived.Test.YtpkaepmmkojdaaaMPartL
import Derived.Test.YtpkaepmmkojdaaaMSPut
/-! Package store: next reads back an entry that was written whole. -/
namespace Go.Proofs.Ytpkaepmmkojdaaa
open Go.RowKit
theorem Dk.part_block {D : Dk} {num fin i : Nat} {l : List UInt8} (hb : D.bad ((fin + i : Nat) : Int) = false) (ht : D.texts[fin + i]? = some (blockB (chunkOf l i) num (chunks l) i)) (hi : i < chunks l) (hl : l.length ≤ 1000000) (hnum : num < 2 ^ 48) : D.part num (fin + i) = some (i, chunks l, chunkOf l i) := by
  have hcl := chunkOf_length l i
  unfold chunks at hi
  unfold Dk.part
  rw [if_neg (by rw [hb]; decide), ht]
  refine partF_block _ _ _ _ (by omega) hnum (by unfold chunks; omega) (by omega) (fun h => ?_)
  unfold chunks at h
  omega
theorem Dk.gather_blocks {D : Dk} {num fin : Nat} {l : List UInt8} (hl : l.length ≤ 1000000) (hnum : num < 2 ^ 48) (h : ∀ i, i < chunks l → D.bad ((fin + i : Nat) : Int) = false ∧ D.texts[fin + i]? = some (blockB (chunkOf l i) num (chunks l) i)) : ∀ i, i ≤ chunks l → D.gather num fin (chunks l) i = some (l.take (240 * i))
  | 0, _ => by simp [Dk.gather]
  | i + 1, hi => by
    have h1 := Dk.gather_blocks hl hnum h i (by omega)
    have h2 := Dk.part_block (h i (by omega)).1 (h i (by omega)).2 (by omega) hl hnum
    unfold Dk.gather
    rw [h1, h2]
    simp only [and_self, if_true]
    unfold chunkOf
    rw [show 240 * (i + 1) = 240 * i + 240 by omega, List.take_add]
theorem Dk.next_blocks {D : Dk} {num fin : Nat} {kd lo po : Nat} {x : List UInt8} (hx : x.length ≤ 65536) (hnum : num < 2 ^ 48) (hk1 : 1 ≤ kd) (hk3 : kd ≤ 3) (hlo : lo < 2 ^ 48) (hpo : po < 2 ^ 48) (hfit : fin + chunks (entryB kd lo po x) ≤ D.texts.length)
    (h : ∀ i, i < chunks (entryB kd lo po x) → D.bad ((fin + i : Nat) : Int) = false ∧ D.texts[fin + i]? = some (blockB (chunkOf (entryB kd lo po x) i) num (chunks (entryB kd lo po x)) i)) :
    D.next num fin = some ((kd, lo, po, x), chunks (entryB kd lo po x)) := by
  have hc1 := chunks_entry (kd : Int) (lo : Int) (po : Int) x
  have hll : (entryB (kd : Int) lo po x).length = x.length + 13 := by simp [entryB, lowB_length]; omega
  have h0 := Dk.part_block (h 0 (by omega)).1 (h 0 (by omega)).2 (by omega) (by omega) hnum
  have hg := Dk.gather_blocks (by omega) hnum h _ (Nat.le_refl _)
  rw [List.take_of_length_le (by unfold chunks; omega)] at hg
  have e0 : (entryB (kd : Int) lo po x).getD 0 0 = byteOf (kd : Int) 0 := rfl
  have e1 : ((entryB (kd : Int) lo po x).drop 1).take 6 = lowB (lo : Int) 6 := rfl
  have e2 : ((entryB (kd : Int) lo po x).drop 7).take 6 = lowB (po : Int) 6 := rfl
  have e3 : (entryB (kd : Int) lo po x).drop 13 = x := rfl
  have hz : (byteOf (kd : Int) 0).toNat = kd := by
    have := byteOf_val (kd : Int) 0
    simp only [Nat.mul_zero, Int.pow_zero, Int.ediv_one] at this
    omega
  rw [Nat.add_zero] at h0
  unfold Dk.next
  rw [h0]
  simp only
  rw [if_neg (by omega), hg]
  simp only
  rw [e0, e1, e2, e3, hz, numOf_low' (by omega), numOf_low' (by omega), if_pos ⟨by omega, hk1, hk3⟩]
end Go.Proofs.Ytpkaepmmkojdaaa

/-! Package store: next of an entry that a crash tore is none. -/
namespace Go.Proofs.Ytpkaepmmkojdaaa
open Go.RowKit
theorem Dk.gather_torn {D : Dk} {num fin n j : Nat} (h : D.part num (fin + j) = none) : ∀ i, j < i → D.gather num fin n i = none
  | 0, hi => by omega
  | i + 1, hi => by
    unfold Dk.gather
    by_cases hj : j = i
    · subst hj
      rw [h]
      cases D.gather num fin n j <;> rfl
    · rw [Dk.gather_torn h i (by omega)]
/-- Every block of the entry is there or is nothing; not all are there. -/
theorem Dk.next_torn {D : Dk} {num fin : Nat} {l : List UInt8} (hl : l.length ≤ 1000000) (hnum : num < 2 ^ 48) (hl0 : 1 ≤ chunks l)
    (h : ∀ i, i < chunks l → (D.bad ((fin + i : Nat) : Int) = false ∧ D.texts[fin + i]? = some (blockB (chunkOf l i) num (chunks l) i)) ∨ D.part num (fin + i) = none) (j : Nat) (hj : j < chunks l) (hn : D.part num (fin + j) = none) :
    D.next num fin = none := by
  have hg := Dk.gather_torn (n := chunks l) hn (chunks l) hj
  unfold Dk.next
  rcases h 0 (by omega) with ⟨h1, h2⟩ | h1
  · have h0 := Dk.part_block h1 h2 (by omega) hl hnum
    rw [Nat.add_zero] at h0
    rw [h0]
    simp only
    rw [hg]
    split <;> rfl
  · rw [Nat.add_zero] at h1
    rw [h1]
/-- A block that is bad, and one of zeros, is nothing. -/
theorem Dk.part_bad {D : Dk} {num kk : Nat} (h : D.bad (kk : Int) = true) : D.part num kk = none := by
  unfold Dk.part
  rw [if_pos h]
theorem partF_zeros (num : Nat) (m : Nat) : partF num (List.replicate m 0) = none := by
  unfold partF
  rw [if_neg]
  rintro ⟨h, _⟩
  cases m with
  | zero => cases h
  | succ m => exact absurd (Option.some.inj h) (by decide)
theorem Dk.part_zeros {D : Dk} {num kk m : Nat} (h : D.texts[kk]? = some (List.replicate m 0)) : D.part num kk = none := by
  unfold Dk.part
  split
  · rfl
  · rw [h]
    exact partF_zeros num m
theorem Dk.next_none {D : Dk} {num fin : Nat} (h : D.part num fin = none) : D.next num fin = none := by
  unfold Dk.next
  rw [h]
end Go.Proofs.Ytpkaepmmkojdaaa

/-! Package store, on: state, Tail. -/
namespace Go.Proofs.Ytpkaepmmkojdaaa
open Go.RowKit

section
variable {W : World} {q : StP} {S : St} {D : Dk}
theorem size_state : (Try.prog.info? 93).map (·.size) = some 3 := by kernel_rfl

set_option maxRecDepth 100000 in
set_option maxHeartbeats 1600000 in
theorem store_state (h : StAt W q S D) (lo : Int) :
    Calls Try.prog 46 #[.pointer (some ⟨q.s, 0, none⟩), .int .i64 lo] W fun e w' => e = .returned (stV (S.get lo)) ∧ Below W.heap.size W w' := by
  obtain ⟨tl, tr, sl, hget, k1, k2, k3, k4⟩ := S.get_form h lo
  have h1 := h.keep ((Below.refl _ W).alloc (Nat.le_refl _) (.cells #[.int .i64 0, .int .i64 0, .bool false] 93))
  have bX := Blk.new W #[.int .i64 0, .int .i64 0, .bool false] 93
  have b1 : Below W.heap.size W (W.alloc (.cells #[.int .i64 0, .int .i64 0, .bool false] 93)) := (Below.refl _ W).alloc (Nat.le_refl _) _
  have hno := store_none h1
  have hlk := store_lookup h1 lo
  rw [hget] at hlk
  simp only [stV] at hlk
  have c2 := h1.cell.cell (o := 2) rfl
  have Hget := hid hget
  clear hget h1
  obtain ⟨W1, hW1⟩ : ∃ W1, W.alloc (.cells #[.int .i64 0, .int .i64 0, .bool false] 93) = W1 := ⟨_, rfl⟩
  rw [hW1] at hno hlk c2 bX b1
  have x0 := bX.cell (o := 0) rfl
  have x1 := bX.cell (o := 1) rfl
  have x2 := bX.cell (o := 2) rfl
  have f0 := bX.free 0
  have f1 := bX.free 1
  have f2 := bX.free 2
  have bF := ((bX.set (o := 0) (.int .i64 tl)).set (o := 1) (.int .i64 tr)).set (o := 2) (.bool sl)
  simp only [List.setIfInBounds_toArray, List.set_cons_zero, List.set_cons_succ] at bF
  have bS : Below W.heap.size W (((W1.setCell ⟨W.heap.size, 0, none⟩ (.int .i64 tl)).setCell ⟨W.heap.size, 1, none⟩ (.int .i64 tr)).setCell ⟨W.heap.size, 2, none⟩ (.bool sl)) :=
    ((b1.setCell (p := ⟨W.heap.size, 0, none⟩) (by simp) _).setCell (p := ⟨W.heap.size, 1, none⟩) (by simp) _).setCell (p := ⟨W.heap.size, 2, none⟩) (by simp) _
  have HF := hid (And.intro bF bS)
  clear bF bS bX
  go_enter Try.func46, Try.ntmps46
  go_wp2_with fail
  refine hno.mono ?_
  rintro e W2 ⟨rfl, h2⟩
  subst h2
  go_wp2_with fail
  refine bodyPost_ret (results_cell_row rfl _ _ W.heap.size 93 _ (0, 0) _ rfl HF.out.1 Try.underlying93 rfl size_state) rfl ?_
  exact ⟨by rw [Hget.out]; rfl, HF.out.2⟩

set_option maxRecDepth 100000 in
set_option maxHeartbeats 1600000 in
theorem store_Tail (h : StAt W q S D) (lo : Int) :
    Calls Try.prog 24 #[.pointer (some ⟨q.s, 0, none⟩), .int .i64 lo] W fun e w' => e = .returned (.int .i64 (max (S.get lo).1 (S.get lo).2.1)) ∧ Below W.heap.size W w' := by
  go_enter Try.func24, Try.ntmps24
  go_wp2_with fail
  refine (store_state h lo).mono ?_
  rintro e W1 ⟨rfl, b1⟩
  obtain ⟨tl, tr, sl, hget, k1, k2, k3, k4⟩ := S.get_form h lo
  rw [hget]
  simp only [stV]
  have Hget := hid hget
  clear hget
  have bz : Below W.heap.size W (W1.alloc (.cells #[.int .i64 tl, .int .i64 tr, .bool sl] 93)) := b1.alloc b1.size _
  have HB := hid bz
  clear bz
  by_cases hm : tl < tr
  · have hd : decide (tl < tr) = true := decide_eq_true hm
    go_wp2_with fail
    all_goals go_ret
    all_goals (rw [Hget.out]; exact ⟨by simp only []; rw [show max tl tr = tr from by omega]; rfl, HB.out⟩)
  · have hd : decide (tl < tr) = false := decide_eq_false hm
    go_wp2_with fail
    all_goals go_ret
    all_goals (rw [Hget.out]; exact ⟨by simp only []; rw [show max tl tr = tl from by omega]; rfl, HB.out⟩)
end
end Go.Proofs.Ytpkaepmmkojdaaa

/-! Package store, on: Seal, Trim, state, Tail. -/
namespace Go.Proofs.Ytpkaepmmkojdaaa
open Go.RowKit

def sealF (S : St) (D : Dk) (lo : Int) : Int × St × Dk := if (S.get lo).2.2 then (0, S, D) else writeF S (applySeal S lo) D 2 lo 0 []
def trimF (S : St) (D : Dk) (lo po : Int) : Int × St × Dk := if po ≤ (S.get lo).2.1 then (0, S, D) else writeF S (applyTrim S lo po) D 3 lo po []
theorem sealF_on {S : St} {D : Dk} (h : On S D) (lo : Int) : On (sealF S D lo).2.1 (sealF S D lo).2.2 := by
  unfold sealF
  split
  · exact h
  · exact writeF_on (S1 := applySeal S lo) h rfl 2 lo 0 []
theorem trimF_on {S : St} {D : Dk} (h : On S D) (lo po : Int) : On (trimF S D lo po).2.1 (trimF S D lo po).2.2 := by
  unfold trimF
  split
  · exact h
  · exact writeF_on (S1 := applyTrim S lo po) h rfl 3 lo po []

section
variable {W : World} {q : StP} {S S1 : St} {D : Dk}

theorem store_write_seal (h : StAt W q S D) (hon : On S D) (lo : Int) (l0 : 0 ≤ lo) (l1 : lo < 281474976710656) :
    Calls Try.prog 44 #[.pointer (some ⟨q.s, 0, none⟩), .agg #[.int .i64 2, .int .i64 lo, .int .i64 0, .slice none 0 0]] W fun e w' => e = .returned (.int .i64 (writeF S (applySeal S lo) D 2 lo 0 []).1) ∧ (∃ q', StAt w' q' (writeF S (applySeal S lo) D 2 lo 0 []).2.1 (writeF S (applySeal S lo) D 2 lo 0 []).2.2 ∧ Went q q' W.heap.size) ∧ Ext q.own W w' := by
  unfold writeF
  by_cases hfit : S.fin + chunks (entryB 2 lo 0 []) ≤ D.texts.length
  · rw [if_pos hfit]
    refine (store_write_ok (S1 := applySeal S lo) h hon.off hon.fuse hon.vers 2 lo 0 _ [] (Bs.nil W) (fun g hg => by simp [Value.ownBlock] at hg) (by simp) (by omega) (by omega) l0 l1 (by omega) (by omega) hfit rfl rfl ?_).mono ?_
    · intro D' W1 q1 hS1 _ hlen v1 hv1
      refine store_do_seal hS1 lo 0 v1 [] hv1 _ (chunks_entry 2 lo 0 []) (by rw [hlen]; exact hfit) rfl rfl ?_
      intro W2 hS2 hv2
      refine (store_seal hS2 2 lo 0 v1 [] hv2).mono ?_
      rintro e w' ⟨⟨v9, rfl⟩, h1, hx⟩
      exact ⟨⟨v9, rfl⟩, ⟨q1, h1, Moves.refl _ _⟩, hx.mono (fun b _ hb => .inr hb)⟩
    · rintro e w' ⟨rfl, ⟨q', h1, h2, h3, h4, h5, h6⟩, hx⟩
      exact ⟨rfl, ⟨q', h1, h2, h3, h4, h5, h6⟩, hx⟩
  · rw [if_neg hfit]
    refine (store_write_full h 2 lo 0 _ [] (Bs.nil W) (by simp) (by omega) (by omega) l0 l1 (by omega) (by omega) hfit).mono ?_
    rintro e w' ⟨rfl, hb⟩
    exact ⟨rfl, ⟨q, h.keep hb, Went.refl _ _⟩, Ext.ofBelow hb⟩

theorem store_write_trim (h : StAt W q S D) (hon : On S D) (lo po : Int) (l0 : 0 ≤ lo) (l1 : lo < 281474976710656) (p0 : 0 ≤ po) (p1 : po < 281474976710656) :
    Calls Try.prog 44 #[.pointer (some ⟨q.s, 0, none⟩), .agg #[.int .i64 3, .int .i64 lo, .int .i64 po, .slice none 0 0]] W fun e w' => e = .returned (.int .i64 (writeF S (applyTrim S lo po) D 3 lo po []).1) ∧ (∃ q', StAt w' q' (writeF S (applyTrim S lo po) D 3 lo po []).2.1 (writeF S (applyTrim S lo po) D 3 lo po []).2.2 ∧ Went q q' W.heap.size) ∧ Ext q.own W w' := by
  unfold writeF
  by_cases hfit : S.fin + chunks (entryB 3 lo po []) ≤ D.texts.length
  · rw [if_pos hfit]
    refine (store_write_ok (S1 := applyTrim S lo po) h hon.off hon.fuse hon.vers 3 lo po _ [] (Bs.nil W) (fun g hg => by simp [Value.ownBlock] at hg) (by simp) (by omega) (by omega) l0 l1 p0 p1 hfit rfl rfl ?_).mono ?_
    · intro D' W1 q1 hS1 _ hlen v1 hv1
      refine store_do_trim hS1 lo po v1 [] hv1 _ (chunks_entry 3 lo po []) (by rw [hlen]; exact hfit) rfl rfl ?_
      intro W2 hS2 hv2
      refine (store_trim hS2 3 lo po v1 [] hv2 p0 (by omega)).mono ?_
      rintro e w' ⟨⟨v9, rfl⟩, h1, hx⟩
      exact ⟨⟨v9, rfl⟩, ⟨q1, h1, Moves.refl _ _⟩, hx.mono (fun b _ hb => .inr hb)⟩
    · rintro e w' ⟨rfl, ⟨q', h1, h2, h3, h4, h5, h6⟩, hx⟩
      exact ⟨rfl, ⟨q', h1, h2, h3, h4, h5, h6⟩, hx⟩
  · rw [if_neg hfit]
    refine (store_write_full h 3 lo po _ [] (Bs.nil W) (by simp) (by omega) (by omega) l0 l1 p0 p1 hfit).mono ?_
    rintro e w' ⟨rfl, hb⟩
    exact ⟨rfl, ⟨q, h.keep hb, Went.refl _ _⟩, Ext.ofBelow hb⟩

set_option maxRecDepth 100000 in
set_option maxHeartbeats 1600000 in
theorem store_Seal (h : StAt W q S D) (hon : On S D) (lo : Int) (l0 : 0 ≤ lo) (l1 : lo < 281474976710656) :
    Calls Try.prog 22 #[.pointer (some ⟨q.s, 0, none⟩), .int .i64 lo] W fun e w' => e = .returned (.int .i64 (sealF S D lo).1) ∧ (∃ q', StAt w' q' (sealF S D lo).2.1 (sealF S D lo).2.2 ∧ Went q q' W.heap.size) ∧ Ext q.own W w' := by
  have hmay := store_may h lo 0 0
  rw [if_pos ⟨l0, l1, by omega, by omega⟩] at hmay
  go_enter Try.func22, Try.ntmps22
  go_wp2_with fail
  refine hmay.mono ?_
  rintro e W1 ⟨rfl, b1⟩
  have h1 := h.keep b1
  clear hmay
  go_wp2_with fail
  refine (store_down h1).mono ?_
  rintro e W2 ⟨rfl, b2⟩
  rw [hon.fallen, hon.off]
  have h2 := h1.keep b2
  have hb2 := b1.trans (b2.mono b1.size)
  have c2 := h2.cell.cell (o := 2) rfl
  have hlk := store_lookup h2 lo
  clear h1 b1 b2
  obtain ⟨tl, tr, sl, hget, k1, k2, k3, k4⟩ := S.get_form h lo
  rw [hget] at hlk
  simp only [stV] at hlk
  have Hget := hid hget
  clear hget
  simp only [Bool.or_self]
  have hfld : (Instr.field 93 (.agg #[.int .i64 tl, .int .i64 tr, .bool sl]) 2).run Try.prog W2 = .ok (.bool sl) W2 := by kernel_rfl
  have hwr := hid (store_write_seal h2 hon lo l0 l1)
  have Hb := hid (And.intro h2 hb2)
  clear h2 hb2
  cases sl
  · have HF := hid (show sealF S D lo = writeF S (applySeal S lo) D 2 lo 0 [] by unfold sealF; rw [Hget.out]; rfl)
    go_wp2_with fail
    refine hwr.out.mono ?_
    rintro e w' hpost
    obtain ⟨rfl, ⟨q', a1, a2⟩, a3⟩ := hpost
    go_wp2_with fail
    go_ret
    rw [HF.out]
    exact ⟨rfl, ⟨q', a1, a2.le Hb.out.2.size⟩, (Ext.ofBelow Hb.out.2 : Ext q.own W _).trans' a3⟩
  · have HF := hid (show sealF S D lo = (0, S, D) by unfold sealF; rw [Hget.out]; rfl)
    go_wp2_with fail
    go_ret
    rw [HF.out]
    exact ⟨rfl, ⟨q, Hb.out.1, Went.refl _ _⟩, Ext.ofBelow Hb.out.2⟩

end
end Go.Proofs.Ytpkaepmmkojdaaa
