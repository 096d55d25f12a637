import Derived.Test.YtbofcocfcmlcaaaMWLaw
import Derived.Test.YtbofcocfcmlcaaaMOnceP
/-! NodeTwice: the plain law. -/
namespace Go.Proofs.Ytbofcocfcmlcaaa
open Go.RowKit

theorem wrote_get (S1 : St) (a b : Nat) (c : Int) : ({ S1 with fin := a, num := b } : St).get c = S1.get c := rfl
theorem putF_twice (S : St) (D : Dk) (lo po : Int) (l : List UInt8) (r : Bool) : putF (putF S D lo po l r).2.1 (putF S D lo po l r).2.2 lo po l r = putF S D lo po l r := by
  by_cases h1 : po < (S.get lo).2.1
  · have e : putF S D lo po l r = (32, S, D) := by unfold putF; rw [if_pos h1]
    rw [e, e]
  · cases h2 : S.slots (lo, po) with
    | some old =>
      have e : putF S D lo po l r = (if old = l then (0, S, D) else (31, S, D)) := by unfold putF; rw [if_neg h1, h2]
      rw [e]
      split
      · rename_i h; simp only [e, if_pos h]
      · rename_i h; simp only [e, if_neg h]
    | none =>
      cases h3 : (S.get lo).2.2 && !r
      · have e : putF S D lo po l r = writeF S (applyPut S lo po l) D 1 lo po l := by unfold putF; rw [if_neg h1, h2]; simp only [h3]; rfl
        rw [e]
        unfold writeF
        split
        · simp only
          unfold putF
          have g : ((applyPut S lo po l).get lo) = (max (S.get lo).1 (po + 1), (S.get lo).2.1, (S.get lo).2.2) := get_self _ _ _
          rw [wrote_get, g, if_neg h1]
          have hs : (applyPut S lo po l).slots (lo, po) = some l := by
            show (if (lo, po) = (lo, po) then some l else _) = some l
            rw [if_pos rfl]
          simp only [hs, if_true]
        · rename_i hn
          simp only
          rw [e]
          unfold writeF
          rw [if_neg hn]
      · have e : putF S D lo po l r = (30, S, D) := by unfold putF; rw [if_neg h1, h2]; simp only [h3]; rfl
        rw [e, e]
theorem sealF_twice (S : St) (D : Dk) (lo : Int) : sealF (sealF S D lo).2.1 (sealF S D lo).2.2 lo = sealF S D lo := by
  cases h : (S.get lo).2.2
  · have e : sealF S D lo = writeF S (applySeal S lo) D 2 lo 0 [] := by unfold sealF; rw [h]; rfl
    rw [e]
    unfold writeF
    split
    · simp only
      unfold sealF
      have g : ((applySeal S lo).get lo) = ((S.get lo).1, (S.get lo).2.1, true) := get_self _ _ _
      rw [wrote_get, g]
      rfl
    · rename_i hn
      simp only
      rw [e]
      unfold writeF
      rw [if_neg hn]
  · have e : sealF S D lo = (0, S, D) := by unfold sealF; rw [h]; rfl
    rw [e, e]
theorem trimF_twice (S : St) (D : Dk) (lo po : Int) : trimF (trimF S D lo po).2.1 (trimF S D lo po).2.2 lo po = trimF S D lo po := by
  by_cases h : po ≤ (S.get lo).2.1
  · have e : trimF S D lo po = (0, S, D) := by unfold trimF; rw [if_pos h]
    rw [e, e]
  · have e : trimF S D lo po = writeF S (applyTrim S lo po) D 3 lo po [] := by unfold trimF; rw [if_neg h]
    rw [e]
    unfold writeF
    split
    · simp only
      unfold trimF
      have g : ((applyTrim S lo po).get lo) = ((S.get lo).1, max (S.get lo).2.1 po, (S.get lo).2.2) := get_self _ _ _
      rw [wrote_get, g, if_pos (by show po ≤ max (S.get lo).2.1 po; omega)]
    · rename_i hn
      simp only
      rw [e]
      unfold writeF
      rw [if_neg hn]
theorem doF_twice (S : St) (D : Dk) (k lo po : Int) (l : List UInt8) : doF (doF S D k lo po l).2.2.1 (doF S D k lo po l).2.2.2 k lo po l = doF S D k lo po l := by
  by_cases h1 : k = 1
  · by_cases h : po ≤ 4095
    · have e : ∀ S D, doF S D k lo po l = ((putF S D lo po l false).1, [], (putF S D lo po l false).2.1, (putF S D lo po l false).2.2) := fun S D => by unfold doF; rw [if_pos h1, if_pos h]
      rw [e S D, e]
      simp only [putF_twice]
    · have e : ∀ S D, doF S D k lo po l = (1, [], S, D) := fun S D => by unfold doF; rw [if_pos h1, if_neg h]
      rw [e S D, e]
  by_cases h2 : k = 2
  · by_cases h : po ≤ 4095
    · have e : ∀ S D, doF S D k lo po l = ((putF S D lo po l true).1, [], (putF S D lo po l true).2.1, (putF S D lo po l true).2.2) := fun S D => by unfold doF; rw [if_neg h1, if_pos h2, if_pos h]
      rw [e S D, e]
      simp only [putF_twice]
    · have e : ∀ S D, doF S D k lo po l = (1, [], S, D) := fun S D => by unfold doF; rw [if_neg h1, if_pos h2, if_neg h]
      rw [e S D, e]
  by_cases h3 : k = 3
  · have e : ∀ S D, doF S D k lo po l = ((sealF S D lo).1, [], (sealF S D lo).2.1, (sealF S D lo).2.2) := fun S D => by unfold doF; rw [if_neg h1, if_neg h2, if_pos h3]
    rw [e S D, e]
    simp only [sealF_twice]
  by_cases h4 : k = 4
  · by_cases h : po ≤ 4095
    · have e : ∀ S D, doF S D k lo po l = ((getF S lo po).1, (getF S lo po).2, S, D) := fun S D => by unfold doF; rw [if_neg h1, if_neg h2, if_neg h3, if_pos h4, if_pos h]
      rw [e S D, e]
    · have e : ∀ S D, doF S D k lo po l = (1, [], S, D) := fun S D => by unfold doF; rw [if_neg h1, if_neg h2, if_neg h3, if_pos h4, if_neg h]
      rw [e S D, e]
  by_cases h6 : k = 6
  · have e : ∀ S D, doF S D k lo po l = ((trimF S D lo po).1, [], (trimF S D lo po).2.1, (trimF S D lo po).2.2) := fun S D => by unfold doF; rw [if_neg h1, if_neg h2, if_neg h3, if_neg h4, if_pos h6]
    rw [e S D, e]
    simp only [trimF_twice]
  · have e : ∀ S D, doF S D k lo po l = (0, [], S, D) := fun S D => by unfold doF; rw [if_neg h1, if_neg h2, if_neg h3, if_neg h4, if_neg h6]
    rw [e S D, e]
theorem askF_twice (S : St) (D : Dk) (b : List UInt8) : askF (askF S D b).2.1 (askF S D b).2.2 b = askF S D b := by
  unfold askF
  cases getReq b with
  | none => rfl
  | some x =>
    obtain ⟨k, lo, po, d⟩ := x
    simp only [doF_twice]

/-- What a node's store holds: tails in bounds, data in bounds. -/
structure StInv (S : St) : Prop where
  tail : ∀ lo, 0 ≤ (S.get lo).1 ∧ (S.get lo).1 ≤ 4096 ∧ (S.get lo).2.1 ≤ 4096
  data : ∀ k l, S.slots k = some l → l.length ≤ 65504
theorem StInv.fresh : StInv St.fresh := ⟨fun a => by show (0 : Int) ≤ 0 ∧ (0 : Int) ≤ 4096 ∧ (0 : Int) ≤ 4096; decide, fun _ _ h => by cases h⟩
theorem writeF_inv {S S1 : St} {D : Dk} (h : StInv S) (h1 : StInv S1) (kd lo po : Int) (l : List UInt8) : StInv (writeF S S1 D kd lo po l).2.1 := by
  unfold writeF
  split
  · exact ⟨h1.tail, h1.data⟩
  · exact h
theorem putF_inv {S : St} {D : Dk} (h : StInv S) (lo po : Int) (l : List UInt8) (r : Bool) (p0 : 0 ≤ po) (p1 : po ≤ 4095) (hl : l.length ≤ 65504) : StInv (putF S D lo po l r).2.1 := by
  unfold putF
  split
  · exact h
  split
  · split <;> exact h
  · split
    · exact h
    · refine writeF_inv h ⟨fun a => ?_, fun k x hk => ?_⟩ _ _ _ _
      · have := h.tail a
        have := h.tail lo
        rw [show (applyPut S lo po l).get a = _ from get_state _ lo a _]
        split
        · simp only; omega
        · exact h.tail a
      · have hk' : (if k = (lo, po) then some l else S.slots k) = some x := hk
        split at hk'
        · cases hk'; exact hl
        · exact h.data k x hk'
theorem doF_inv {S : St} {D : Dk} (h : StInv S) (k lo po : Int) (l : List UInt8) (p0 : 0 ≤ po) (p1 : po ≤ 4096) (hl : l.length ≤ 65504) : StInv (doF S D k lo po l).2.2.1 ∧ (doF S D k lo po l).2.1.length ≤ 65504 := by
  unfold doF
  split
  · split
    · exact ⟨putF_inv h lo po l false p0 (by omega) hl, by simp⟩
    · exact ⟨h, by simp⟩
  split
  · split
    · exact ⟨putF_inv h lo po l true p0 (by omega) hl, by simp⟩
    · exact ⟨h, by simp⟩
  split
  · refine ⟨?_, by simp⟩
    unfold sealF
    split
    · exact h
    · refine writeF_inv (S1 := applySeal S lo) h ⟨fun a => ?_, h.data⟩ _ _ _ _
      rw [show (applySeal S lo).get a = _ from get_state _ lo a _]
      split
      · exact h.tail lo
      · exact h.tail a
  split
  · split
    · refine ⟨h, ?_⟩
      unfold getF
      split
      · simp
      · split
        · simp
        · rename_i x hx
          exact h.data _ x hx
    · exact ⟨h, by simp⟩
  split
  · refine ⟨?_, by simp⟩
    unfold trimF
    split
    · exact h
    · refine writeF_inv (S1 := applyTrim S lo po) h ⟨fun a => ?_, h.data⟩ _ _ _ _
      rw [show (applyTrim S lo po).get a = _ from get_state _ lo a _]
      split
      · have := h.tail lo
        simp only
        omega
      · exact h.tail a
  · exact ⟨h, by simp⟩
theorem putRep_len (e tl : Int) (sl : Bool) (l : List UInt8) : (putRepB e tl sl l).length ≤ 65600 := by
  unfold putRepB
  split
  · rename_i h
    have := of_decide_eq_true h
    rw [frame_length]
    simp [repB, lowB_length]
    omega
  · simp
theorem askF_inv {S : St} (D : Dk) (h : StInv S) (b : List UInt8) : StInv (askF S D b).2.1 ∧ ∃ e tl sl d, getRep (askF S D b).1 = some (e, tl, sl, d) ∧ (askF S D b).1.length ≤ 65600 := by
  unfold askF
  cases hr : getReq b with
  | none =>
    exact ⟨h, 22, 0, false, [], getRep_put 22 0 false [] (by decide), putRep_len 22 0 false []⟩
  | some x =>
    obtain ⟨k, lo, po, d⟩ := x
    have hr0 := of_decide_eq_true (getReq_right hr)
    obtain ⟨hk1, hk2, l0, l1, p0, p1, hd, _⟩ := hr0
    have hi := doF_inv (D := D) h (k : Int) (lo : Int) (po : Int) d p0 p1 hd
    have hc := doF_code S D (k : Int) (lo : Int) (po : Int) d
    simp only
    generalize doF S D (k : Int) (lo : Int) (po : Int) d = R at *
    obtain ⟨cd, dl, S', D'⟩ := R
    simp only at hi hc ⊢
    refine ⟨hi.1, ?_⟩
    have ht := hi.1.tail (lo : Int)
    obtain ⟨e, rfl⟩ := Int.eq_ofNat_of_zero_le hc.2.1
    obtain ⟨t, he⟩ := Int.eq_ofNat_of_zero_le (show 0 ≤ tailF S' (lo : Int) by unfold tailF; omega)
    have htl : tailF S' (lo : Int) ≤ 4096 := by unfold tailF; omega
    rw [he] at htl ⊢
    refine ⟨e, t, _, dl, getRep_put e t _ dl (decide_eq_true ⟨by omega, by omega, by omega, htl, hi.2⟩), putRep_len _ _ _ _⟩
end Go.Proofs.Ytbofcocfcmlcaaa
