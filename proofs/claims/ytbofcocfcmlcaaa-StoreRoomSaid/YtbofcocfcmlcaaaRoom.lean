import Derived.Test.YtbofcocfcmlcaaaKnows
import Derived.Test.YtbofcocfcmlcaaaLaw
/-! gazettelaw04.StoreRoom: the walk. -/
namespace Go.Proofs.Ytbofcocfcmlcaaa
open Go.RowKit

theorem entryB_length (kd lo po : Int) (l : List UInt8) : (entryB kd lo po l).length = l.length + 13 := by
  simp [entryB, lowB_length]; omega

/-- What holds between two puts. -/
structure RoomInv (n k : Nat) (S : St) (D : Dk) : Prop where
  len : D.texts.length = n
  trim : (S.get 1).2.1 = 0
  sealed : (S.get 1).2.2 = false
  slots : ∀ j : Int, (k : Int) ≤ j → S.slots (1, j) = none

theorem room_put {n k : Nat} {S : St} {D : Dk} (h : RoomInv n k S D) (l : List UInt8) :
    (if S.fin + (l.length + 252) / 240 ≤ n then (putF S D 1 k l false).1 = 0 ∧ (putF S D 1 k l false).2.1.fin = S.fin + (l.length + 252) / 240 ∧ RoomInv n (k + 1) (putF S D 1 k l false).2.1 (putF S D 1 k l false).2.2
      else (putF S D 1 k l false) = (7, S, D)) := by
  have hch : chunks (entryB 1 1 k l) = (l.length + 252) / 240 := by unfold chunks; rw [entryB_length]
  have hp : putF S D 1 k l false = writeF S (applyPut S 1 k l) D 1 1 k l := by
    unfold putF
    rw [h.trim, if_neg (by omega), h.slots k (Int.le_refl _), h.sealed]
    rfl
  rw [hp]
  unfold writeF
  rw [hch, h.len]
  by_cases hf : S.fin + (l.length + 252) / 240 ≤ n
  · rw [if_pos hf, if_pos hf]
    refine ⟨rfl, rfl, ?_, ?_, ?_, ?_⟩
    · simp [Dk.synced, Dk.wrote, h.len]
    · show (((applyPut S 1 k l).states 1).getD (0, 0, false)).2.1 = 0
      simp only [applyPut, St.setState, if_true, Option.getD_some]
      exact h.trim
    · show (((applyPut S 1 k l).states 1).getD (0, 0, false)).2.2 = false
      simp only [applyPut, St.setState, if_true, Option.getD_some]
      exact h.sealed
    · intro j hj
      show (if ((1 : Int), j) = ((1 : Int), (k : Int)) then some l else S.slots (1, j)) = none
      rw [if_neg (by intro e; have := congrArg Prod.snd e; simp only at this; omega)]
      exact h.slots j (by omega)
  · rw [if_neg hf, if_neg hf]

def mod3 (b m : Int) : Int := (b.tmod m + m).tmod m
theorem mod3_bound (b m : Int) (h : 0 < m) : 0 ≤ mod3 b m ∧ mod3 b m < m := by
  unfold mod3
  have h1 := Int.lt_tmod_of_pos b h
  have h2 := Int.tmod_lt_of_pos b h
  have h3 : 0 ≤ b.tmod m + m := by omega
  exact ⟨Int.tmod_nonneg m h3, Int.tmod_lt_of_pos _ h⟩

theorem room_nums (x : Int) : ∃ m nd : Nat, m < 2000 ∧ nd = (m + 252) / 240 ∧ wrap64 (x.tmod 2000 + 2000) = x.tmod 2000 + 2000 ∧ (x.tmod 2000 + 2000).tmod 2000 = (m : Int) ∧ wrap64 ((m : Int) + 13) = (m : Int) + 13 ∧ wrap64 ((m : Int) + 13 + 239) = (m : Int) + 13 + 239 ∧ ((m : Int) + 13 + 239) / 240 = (nd : Int) ∧ Int.tdiv ((m : Int) + 13 + 239) 240 = (nd : Int) := by
  have h1 := Int.lt_tmod_of_pos x (show (0 : Int) < 2000 by omega)
  have h2 := Int.tmod_lt_of_pos x (show (0 : Int) < 2000 by omega)
  obtain ⟨h3, h4⟩ := mod3_bound x 2000 (by omega)
  unfold mod3 at h3 h4
  have h5 : wrap64 (x.tmod 2000 + 2000) = x.tmod 2000 + 2000 := by
    clear h3 h4
    generalize x.tmod 2000 = t at *
    unfold wrap64
    omega
  generalize (x.tmod 2000 + 2000).tmod 2000 = u at *
  obtain ⟨m, rfl⟩ := Int.eq_ofNat_of_zero_le h3
  clear h1 h2 h3
  have h6 : ((m : Int) + 13 + 239) / 240 = (((m + 252) / 240 : Nat) : Int) := by omega
  exact ⟨m, (m + 252) / 240, by omega, rfl, h5, rfl, by unfold wrap64; omega, by unfold wrap64; omega, h6, by rw [Int.tdiv_eq_ediv_of_nonneg (by omega)]; exact h6⟩

theorem room_start (n : Nat) : RoomInv n 0 St.fresh (Dk.fresh n) := ⟨fresh_len n, rfl, rfl, fun _ _ => rfl⟩

set_option maxRecDepth 100000 in
set_option maxHeartbeats 1600000 in
theorem law_room (b : Int) (hb : -9223372036854775808 ≤ b ∧ b ≤ 9223372036854775807) (v : Value) (l : List Int) (W : World) (hv : Is W v l) (hl : l.length ≤ 9223372036854775807) (hi : ∀ x ∈ l, -9223372036854775808 ≤ x ∧ x ≤ 9223372036854775807) :
    Calls Try.prog 3 #[.int .i64 b, v] W fun e W' => e = .returned (.bool true) ∧ Below W.heap.size W W' := by
  obtain ⟨hm0, hm1⟩ := mod3_bound b 40 (by omega)
  obtain ⟨n, hn⟩ : ∃ n : Nat, 1 + mod3 b 40 = (n : Int) := ⟨(1 + mod3 b 40).toNat, by omega⟩
  obtain ⟨a, c, rfl, hr⟩ := id hv
  clear hr
  unfold mod3 at hn
  have hq1 := Int.lt_tmod_of_pos b (show (0 : Int) < 40 by omega)
  have hq2 := Int.tmod_lt_of_pos b (show (0 : Int) < 40 by omega)
  have hw1 : wrap64 (b.tmod 40 + 40) = b.tmod 40 + 40 := by
    generalize b.tmod 40 = t at hq1 hq2
    unfold wrap64
    omega
  have hw2 : wrap64 (1 + (b.tmod 40 + 40).tmod 40) = (n : Int) := by
    unfold mod3 at hm0 hm1
    rw [← hn]
    generalize (b.tmod 40 + 40).tmod 40 = t at hm0 hm1
    unfold wrap64
    omega
  unfold mod3 at hm0 hm1
  have hn1 : 1 ≤ n := by generalize (b.tmod 40 + 40).tmod 40 = t at hm0 hm1 hn; omega
  have hn40 : n ≤ 40 := by generalize (b.tmod 40 + 40).tmod 40 = t at hm0 hm1 hn; omega
  clear hm0 hm1 hn hq1 hq2
  go_enter Try.func3, Try.ntmps3
  go_wp2_with fail
  refine (disk_New n W hn1 (by omega)).mono ?_
  rintro e W1 ⟨p, rfl, hD, b1, hp⟩
  clear hw1 hw2
  go_wp2_with fail
  refine (store_Open_fresh n hD).mono ?_
  rintro e W2 ⟨q, rfl, hS, b2, hqp, hqa, hqb, hqc, hqU⟩
  have b12 : Below W.heap.size W W2 := b1.trans (b2.mono b1.size)
  have r : Run W.heap.size W2 q St.fresh (Dk.fresh n) := ⟨hS, fresh_on n, fun b hb => by
    have h1 := b1.size
    rcases hb with (hb | hb | hb | hb) | hb | hb
    · omega
    · omega
    · omega
    · rw [hqp] at hb; exact hp b (.inl hb)
    · rw [hqU] at hb; exact hb.elim
    · rw [hqp] at hb; exact hp b (.inr hb)⟩
  clear hS hD b1 b2 hp hqp hqa hqb hqc hqU
  go_wp2_with fail
  refine (law_num _ _).mono ?_
  rintro e W2' ⟨rfl, h2⟩
  subst h2
  go_wp2_with fail
  refine (law_num _ _).mono ?_
  rintro e W2' ⟨rfl, h2⟩
  subst h2
  go_wp2_with fail
  refine (law_knows W2').mono ?_
  rintro e W3 ⟨rfl, b3⟩
  have r3 := r.keep b3
  have b13 := b12.trans (b3.mono b12.size)
  have hv3 := hv.keep b13
  clear r b12 b3
  go_wp2_with fail
  go_loopw [9] (fun i wr => ∃ k : Nat, k ≤ l.length ∧ k ≤ 40 ∧ i = .int .i64 (k : Int) ∧ ∃ q' S D, q'.s = q.s ∧ Run W.heap.size wr q' S D ∧ RoomInv n k S D ∧ Below W.heap.size W wr) (fun i _ => 40 - (intOf i).toNat)
  case atStart => exact ⟨0, by omega, by omega, rfl, q, St.fresh, Dk.fresh n, rfl, r3, room_start n, b13⟩
  case round =>
    obtain ⟨k, hk, hk40, rfl, q', S, D, hqs, rk, hI, bk⟩ := hrel
    have hvk := hv.keep bk
    by_cases hlt : k < l.length
    · by_cases hlt2 : k < 40
      · have hd1 : decide ((k : Int) < (l.length : Int)) = true := decide_eq_true (by omega)
        have hd2 : decide ((k : Int) < 40) = true := decide_eq_true (by omega)
        obtain ⟨x, hx⟩ : ∃ x, l[k]? = some x := ⟨l[k], by simp⟩
        obtain ⟨_, _, e0, hr⟩ := hvk
        obtain ⟨g, o, e1, hc⟩ := hr k x hx
        injection e0 with e0 e02 e03
        clear e02
        subst e03
        rw [e1] at e0
        clear e1
        subst e0
        clear hr
        obtain ⟨m, nd, hm2, hnd, hw3, hm, hw4, hw5, hd4, hd3⟩ := room_nums x
        have Hnd := hid hnd
        clear hnd hw4 hw5
        go_wp2_with fail
        have hF := store_Free rk.at_
        rw [hqs] at hF
        refine hF.mono ?_
        rintro e W5 ⟨rfl, b5⟩
        have r5 := rk.keep b5
        have b15 := bk.trans (b5.mono bk.size)
        clear rk b5 bk hF
        have hmk := run_make_u8 m (by omega) W5
        have hbk := bs_made W5 m (by simp [maxLen]; omega)
        have b6 : Below W5.heap.size W5 (W5.alloc (.cells (madeCells #[.int .u8 0] m) 5)) := (Below.refl _ W5).alloc (Nat.le_refl _) _
        have r6 := r5.keep b6
        have b16 := b15.trans (b6.mono b15.size)
        have hP := run_Put r6 b16.size 1 (k : Int) _ (List.replicate m 0) false hbk (fun g hg hq => by
          simp only [Value.ownBlock, Option.some.injEq] at hg
          have := r5.at_.size hq
          omega) (by simp; omega) (by omega) (by omega) (by omega) (by omega)
        rw [hqs] at hP
        obtain ⟨W6, hW6⟩ : ∃ W6, W5.alloc (.cells (madeCells #[.int .u8 0] m) 5) = W6 := ⟨_, rfl⟩
        rw [hW6] at hmk hP b16
        have HP := hid (And.intro hP b16)
        clear hP hbk b6 r6 b16 hW6
        go_wp2_with fail
        refine HP.out.1.mono ?_
        rintro e W7 ⟨rfl, ⟨q2, r7, hq2⟩, b7⟩
        have b17 := HP.out.2.trans b7
        have hput := room_put hI (List.replicate m 0)
        rw [List.length_replicate] at hput
        have hlen := hI.len
        have hbd := r5.at_.bound.1
        have hbd2 := r7.at_.bound.1
        clear HP hmk r5 b15
        by_cases hfit : S.fin + (m + 252) / 240 ≤ n
        · rw [if_pos hfit] at hput
          obtain ⟨g0, g1, hI'⟩ := hput
          rw [g0]
          have hlen' := hI'.len
          generalize (putF S D 1 (k : Int) (List.replicate m 0) false).2.1 = S' at *
          generalize (putF S D 1 (k : Int) (List.replicate m 0) false).2.2 = D' at *
          have hF2 := store_Free r7.at_
          obtain ⟨f1, hf1⟩ : ∃ f1, f1 = D'.texts.length - S'.fin := ⟨_, rfl⟩
          rw [← hf1, hq2] at hF2
          have hnd := Hnd.out
          have hf0 : D.texts.length - S.fin = f1 + nd := by omega
          rw [hf0]
          have hf1le : f1 ≤ 40 := by omega
          have hsub : ((f1 + nd : Nat) : Int) - (nd : Int) = (f1 : Int) := by omega
          have hc1 : decide ((nd : Int) > ((f1 + nd : Nat) : Int)) = false := decide_eq_false (by omega)
          have hc2 : decide ((nd : Int) ≤ ((f1 + nd : Nat) : Int)) = true := decide_eq_true (by omega)
          have HH := hid (And.intro r7 (And.intro hI' (And.intro b17 hq2)))
          clear hI r7 hI' b17 hq2 g0 g1 hlen hlen' hf1 hf0 hnd hbd hbd2 hfit b7
          have HF2 := hid hF2
          clear hF2
          go_wp2_with fail
          refine (law_num _ _).mono ?_
          rintro e W8 ⟨rfl, h8⟩
          subst h8
          go_wp2_with fail
          refine HF2.out.mono ?_
          rintro e W9 ⟨rfl, b9⟩
          have r9 := HH.out.1.keep b9
          have b19 := HH.out.2.2.1.trans (b9.mono HH.out.2.2.1.size)
          go_wp2_with fail
          go_roundw
          case rel => exact ⟨k + 1, by omega, by omega, by go_num, q2, S', D', HH.out.2.2.2, r9, HH.out.2.1, b19⟩
          case measure => simp [intOf]; omega
        · rw [if_neg hfit] at hput
          rw [hput] at r7 ⊢
          have hF2 := store_Free r7.at_
          obtain ⟨f1, hf1⟩ : ∃ f1, f1 = D.texts.length - S.fin := ⟨_, rfl⟩
          rw [← hf1] at hF2 ⊢
          rw [hq2] at hF2
          have hnd := Hnd.out
          have hf1le : f1 ≤ 40 := by have := hI.len; omega
          have hc1 : decide ((nd : Int) > (f1 : Int)) = true := decide_eq_true (by omega)
          have hc2 : decide ((nd : Int) ≤ (f1 : Int)) = false := decide_eq_false (by omega)
          have hgt : f1 < nd := by omega
          have hI' : RoomInv n (k + 1) S D := ⟨hI.len, hI.trim, hI.sealed, fun j hj => hI.slots j (by omega)⟩
          have HH := hid (And.intro r7 (And.intro hI' (And.intro b17 hq2)))
          have HF2 := hid hF2
          clear r7 hI' b17 hq2 hf1 hnd hbd hbd2 hfit b7 hF2 hI hput hlen
          go_wp2_with fail
          refine (law_num _ _).mono ?_
          rintro e W8 ⟨rfl, h8⟩
          subst h8
          go_wp2_with fail
          refine HF2.out.mono ?_
          rintro e W9 ⟨rfl, b9⟩
          have r9 := HH.out.1.keep b9
          have b19 := HH.out.2.2.1.trans (b9.mono HH.out.2.2.1.size)
          go_wp2_with fail
          go_roundw
          case rel => exact ⟨k + 1, by omega, by omega, by go_num, q2, S, D, HH.out.2.2.2, r9, HH.out.2.1, b19⟩
          case measure => simp [intOf]; omega
      · have hd1 : decide ((k : Int) < (l.length : Int)) = true := decide_eq_true (by omega)
        have hd2 : decide ((k : Int) < 40) = false := decide_eq_false (by omega)
        go_wp2_with fail
        go_ret
        exact ⟨rfl, bk⟩
    · have hd1 : decide ((k : Int) < (l.length : Int)) = false := decide_eq_false (by omega)
      go_wp2_with fail
      go_ret
      exact ⟨rfl, bk⟩

end Go.Proofs.Ytbofcocfcmlcaaa
