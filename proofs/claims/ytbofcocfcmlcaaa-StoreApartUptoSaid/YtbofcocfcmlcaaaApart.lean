import Derived.Test.YtbofcocfcmlcaaaApartP
import Derived.Test.YtbofcocfcmlcaaaEql
import Derived.Test.YtbofcocfcmlcaaaRegionG
import Derived.Test.YtbofcocfcmlcaaaLaw
/-! gazettelaw04.StoreApart: the walk. -/
namespace Go.Proofs.Ytbofcocfcmlcaaa
open Go.RowKit

theorem apart_start (id : Int) : Apart id St.fresh St.fresh (Dk.fresh 200) (Dk.fresh 200) := ⟨rfl, fun _ => rfl, Nat.le_refl _, fresh_len 200, fresh_len 200⟩
theorem fresh_two {W W1 W2 W3 W4 : World} {p1 p2 : DkP} {q1 q2 : StP} (b1 : Below W.heap.size W W1) (hp1 : ∀ b, p1.all b → W.heap.size ≤ b) (hD1 : DkAt W1 p1 (Dk.fresh 200)) (b2 : Below W1.heap.size W1 W2) (hp2 : ∀ b, p2.all b → W1.heap.size ≤ b) (hD2 : DkAt W2 p2 (Dk.fresh 200))
    (hS1 : StAt W3 q1 St.fresh (Dk.fresh 200)) (b3 : Below W2.heap.size W2 W3) (e1 : q1.p = p1) (s1 : W2.heap.size ≤ q1.s) (m1 : W2.heap.size ≤ q1.ms) (t1 : W2.heap.size ≤ q1.mt) (u1 : q1.U = fun _ => False)
    (hS2 : StAt W4 q2 St.fresh (Dk.fresh 200)) (b4 : Below W3.heap.size W3 W4) (e2 : q2.p = p2) (s2 : W3.heap.size ≤ q2.s) (m2 : W3.heap.size ≤ q2.ms) (t2 : W3.heap.size ≤ q2.mt) (u2 : q2.U = fun _ => False) :
    Two W.heap.size W4 q1 St.fresh (Dk.fresh 200) q2 St.fresh (Dk.fresh 200) ∧ Below W.heap.size W W4 := by
  have z1 := b1.size
  have z2 := b2.size
  have z3 := b3.size
  have z4 := b4.size
  have a1 : ∀ b, q1.all b → (W2.heap.size ≤ b ∧ b < W3.heap.size) ∨ (W.heap.size ≤ b ∧ b < W1.heap.size) := by
    intro b hb
    have hlt := hS1.size hb
    rcases hb with (hb | hb | hb | hb) | hb | hb
    · exact .inl ⟨by omega, hlt⟩
    · exact .inl ⟨by omega, hlt⟩
    · exact .inl ⟨by omega, hlt⟩
    · rw [e1] at hb; exact .inr ⟨hp1 b (.inl hb), hD1.lt (.inl hb)⟩
    · rw [u1] at hb; exact hb.elim
    · rw [e1] at hb; exact .inr ⟨hp1 b (.inr hb), hD1.lt (.inr hb)⟩
  have a2 : ∀ b, q2.all b → W3.heap.size ≤ b ∨ (W1.heap.size ≤ b ∧ b < W2.heap.size) := by
    intro b hb
    rcases hb with (hb | hb | hb | hb) | hb | hb
    · exact .inl (by omega)
    · exact .inl (by omega)
    · exact .inl (by omega)
    · rw [e2] at hb; exact .inr ⟨hp2 b (.inl hb), hD2.lt (.inl hb)⟩
    · rw [u2] at hb; exact hb.elim
    · rw [e2] at hb; exact .inr ⟨hp2 b (.inr hb), hD2.lt (.inr hb)⟩
  refine ⟨⟨hS1.keep b4, fresh_on 200, hS2, fresh_on 200, fun b h1 h2 => ?_, fun b hb => ?_⟩, ((b1.trans (b2.mono z1)).trans (b3.mono (by omega))).trans (b4.mono (by omega))⟩
  · rcases a1 b h1 with h | h <;> rcases a2 b h2 with k | k <;> omega
  · rcases hb with hb | hb
    · rcases a1 b hb with h | h <;> omega
    · rcases a2 b hb with h | h <;> omega

theorem eval_of {a : Act} {k : Nat} {v : Value} (h : a.tmps[k]?.getD undef = v) : a.eval (.tmp k) = v := by
  rw [← h, ← Array.getD_eq_getD_getElem?]
  rfl
theorem told_data (S : St) (j : Nat) (h : j < 18) : (told S)[j]? = some (tData S j) := by rw [told_get, if_pos h]
theorem told_there (S : St) (j : Nat) (h : j < 18) : (told S)[18 + j]? = some (tThere S j) := by rw [told_get, if_neg (by omega), if_pos (by omega), Nat.add_sub_cancel_left]
theorem told_sealed (S : St) (j : Nat) (h : j < 3) : (told S)[36 + j]? = some (tSealed S j) := by rw [told_get, if_neg (by omega), if_neg (by omega), if_pos (by omega), Nat.add_sub_cancel_left]
theorem told_trim (S : St) (j : Nat) (h : j < 3) : (told S)[39 + j]? = some (tTrim S j) := by rw [told_get, if_neg (by omega), if_neg (by omega), if_neg (by omega), if_pos (by omega), Nat.add_sub_cancel_left]
theorem apart_tData {n : Nat} {S1 S2 : St} {D1 D2 : Dk} (h : Apart (n : Int) S1 S2 D1 D2) (j : Nat) (hj : j / 6 = n) : tData S2 j = tData S1 j := by
  unfold tData; rw [hj, apart_getF h]
theorem apart_tThere {n : Nat} {S1 S2 : St} {D1 D2 : Dk} (h : Apart (n : Int) S1 S2 D1 D2) (j : Nat) (hj : j / 6 = n) : tThere S2 j = tThere S1 j := by
  unfold tThere; rw [hj, apart_getF h]
theorem str6 (S : St) (a b c d e f : Nat) : StrAt #[tData S a, tData S b, tData S c, tData S d, tData S e, tData S f] 6 := by
  intro j hj
  match j, hj with
  | 0, _ => exact ⟨_, rfl⟩
  | 1, _ => exact ⟨_, rfl⟩
  | 2, _ => exact ⟨_, rfl⟩
  | 3, _ => exact ⟨_, rfl⟩
  | 4, _ => exact ⟨_, rfl⟩
  | 5, _ => exact ⟨_, rfl⟩
theorem bool6 (S : St) (a b c d e f : Nat) : BoolAt #[tThere S a, tThere S b, tThere S c, tThere S d, tThere S e, tThere S f] 6 := by
  intro j hj
  match j, hj with
  | 0, _ => exact ⟨_, rfl⟩
  | 1, _ => exact ⟨_, rfl⟩
  | 2, _ => exact ⟨_, rfl⟩
  | 3, _ => exact ⟨_, rfl⟩
  | 4, _ => exact ⟨_, rfl⟩
  | 5, _ => exact ⟨_, rfl⟩

set_option maxRecDepth 100000 in
set_option maxHeartbeats 3200000 in
theorem law_apart (v : Value) (l : List Opr) (idn : Int) (W : World) (hv : Ops W v l) (hl : l.length ≤ 9223372036854775807) (hi : ∀ x ∈ l, OprOk x) :
    Calls Try.prog 5 #[v, .int .i64 idn] W fun e W' => e = .returned (.bool true) ∧ Below W.heap.size W W' := by
  obtain ⟨a, c, rfl, hr⟩ := id hv
  clear hr
  obtain ⟨n, hn1, hn2, hn3⟩ := mod3_num idn 3 (by omega)
  have hw1 := mod3_wrap idn 3 (by omega) (by omega)
  go_enter Try.func5, Try.ntmps5
  go_wp2_with fail
  refine (disk_New 200 W (by omega) (by omega)).mono ?_
  rintro e W1 ⟨p1, rfl, hD1, b1, hp1⟩
  go_wp2_with fail
  refine (disk_New 200 W1 (by omega) (by omega)).mono ?_
  rintro e W2 ⟨p2, rfl, hD2, b2, hp2⟩
  go_wp2_with fail
  refine (store_Open_fresh 200 (hD1.keep b2)).mono ?_
  rintro e W3 ⟨q1, rfl, hS1, b3, e1, s1, m1, t1, u1⟩
  go_wp2_with fail
  refine (store_Open_fresh 200 (hD2.keep b3)).mono ?_
  rintro e W4 ⟨q2, rfl, hS2, b4, e2, s2, m2, t2, u2⟩
  obtain ⟨r, bW⟩ := fresh_two b1 hp1 hD1 b2 hp2 hD2 hS1 b3 e1 s1 m1 t1 u1 hS2 b4 e2 s2 m2 t2 u2
  clear b1 hp1 hD1 b2 hp2 hD2 hS1 b3 e1 s1 m1 t1 u1 hS2 b4 e2 s2 m2 t2 u2
  go_wp2_with fail
  refine (law_num _ _).mono ?_
  rintro e w' ⟨rfl, rfl⟩
  go_wp2_with fail
  refine (law_num _ _).mono ?_
  rintro e w' ⟨rfl, rfl⟩
  go_wp2_with fail
  refine (law_num _ _).mono ?_
  rintro e w' ⟨rfl, rfl⟩
  go_wp2_with fail
  refine (law_num _ _).mono ?_
  rintro e w' ⟨rfl, rfl⟩
  go_wp2_with fail
  refine (law_knows _).mono ?_
  rintro e W5 ⟨rfl, b5⟩
  have r5 := r.keep b5
  have bW5 := bW.trans (b5.mono bW.size)
  clear r bW b5
  go_wp2_with fail
  have Hn3 := hid hn3
  clear hn1 hn3 hw1
  go_loopw [13] (fun i wr => ∃ (k : Nat) (q1' q2' : StP) (S1 S2 : St) (D1 D2 : Dk), k ≤ l.length ∧ k ≤ 60 ∧ i = .int .i64 (k : Int) ∧ q1'.s = q1.s ∧ q2'.s = q2.s ∧ Two W.heap.size wr q1' S1 D1 q2' S2 D2 ∧ Apart (n : Int) S1 S2 D1 D2 ∧ Below W.heap.size W wr) (fun i _ => 60 - (intOf i).toNat)
  case atStart => exact ⟨0, q1, q2, St.fresh, St.fresh, Dk.fresh 200, Dk.fresh 200, by omega, by omega, rfl, rfl, rfl, r5, apart_start _, bW5⟩
  case round =>
    obtain ⟨k, QQ1, QQ2, S1, S2, D1, D2, hk, hk60, rfl, hq1, hq2, r, hA, bW⟩ := hrel
    clear r5 bW5
    have hvk := hv.keep bW
    by_cases hlt : k < l.length ∧ k < 60
    · obtain ⟨hlt, hlt2⟩ := hlt
      have hd1 : decide ((k : Int) < (l.length : Int)) = true := decide_eq_true (by omega)
      · have hd2 : decide ((k : Int) < 60) = true := decide_eq_true (by omega)
        obtain ⟨o, ho⟩ : ∃ o, l[k]? = some o := ⟨l[k], by simp⟩
        have hoo := hi o (List.mem_of_getElem? ho)
        obtain ⟨_, _, e0, hr⟩ := id hv
        obtain ⟨g, f, e1, hop⟩ := hr k o ho
        injection e0 with e0 e02 e03
        clear e02 hr ho hvk
        subst e03
        rw [e1] at e0
        clear e1
        subst e0
        obtain ⟨bv, lv, c0, c1, c2, c3, c4, c5, c6, c7, hb, hL⟩ := hop.open2 bW
        obtain ⟨od, ol, op, on, orp, ob, os, oll⟩ := o
        obtain ⟨bg, bc, rfl⟩ := hb.form
        obtain ⟨lg, lc, rfl, hL2⟩ := hL
        clear hL2 hop hv
        simp only at c0 c1 c2 c3 c4 c5 c6 c7 hb
        have q1' := Int.lt_tmod_of_pos os (show (0 : Int) < 500 by omega)
        have q2' := Int.tmod_lt_of_pos os (show (0 : Int) < 500 by omega)
        have ho' : OprOk ⟨od, ol, op, on, orp, ob, os.tmod 500, oll⟩ := ⟨hoo.kind, hoo.lo, hoo.po, hoo.n, by generalize os.tmod 500 = t at q1' q2'; show -9223372036854775808 ≤ t ∧ t ≤ 9223372036854775807; omega, hoo.b⟩
        have b6 : Below wr.heap.size wr (wr.alloc (.cells #[.int .i64 od, .int .i64 ol, .int .i64 op, .int .i64 on, .bool orp, .slice bg ob.length bc, .int .i64 (os.tmod 500), .slice lg oll.length lc] 48)) := (Below.refl _ wr).alloc (Nat.le_refl _) _
        have r6 := r.keep b6
        have bW6 := bW.trans (b6.mono bW.size)
        have bE := Blk.new wr #[.int .i64 od, .int .i64 ol, .int .i64 op, .int .i64 on, .bool orp, .slice bg ob.length bc, .int .i64 (os.tmod 500), .slice lg oll.length lc] 48
        have hEq : ∀ b, QQ1.all b → b ≠ wr.heap.size := fun b h e => by have := r.at1.size h; omega
        clear hoo b6 q1' q2'
        by_cases hin : 0 ≤ od ∧ od ≤ 2
        · obtain ⟨hin0, hin2⟩ := hin
          have hc := law_call r6.at1 r6.on1 _ ho' (.slice bg ob.length bc) (.slice lg oll.length lc) (hb.keep bW6)
          rw [hq1] at hc
          have HC := hid hc
          have HR := hid (And.intro r6 (And.intro bW6 (And.intro bE (And.intro hEq ho'))))
          clear hc r6 bW6 bE hEq ho' bW r
          go_wp2_with fail
          refine HC.out.mono ?_
          rintro e W7 hpost
          have HQ := hid hpost.2
          obtain ⟨rfl, _⟩ := hpost
          clear HC c0 c1 c2 c3 c4 c5 c6 c7
          have bE7 := HR.out.2.2.1.ext HQ.out.2 (fun h => HR.out.2.2.2.1 _ (.inl h) rfl)
          have e0 := bE7.cell (o := 0) rfl
          have e1 := bE7.cell (o := 1) rfl
          have e2 := bE7.cell (o := 2) rfl
          have e3 := bE7.cell (o := 3) rfl
          have e4 := bE7.cell (o := 4) rfl
          have e5 := bE7.cell (o := 5) rfl
          have e6 := bE7.cell (o := 6) rfl
          have e7 := bE7.cell (o := 7) rfl
          obtain ⟨m, hm1, hm2, hm3⟩ := mod3_num ol 3 (by omega)
          have hw1 := mod3_wrap ol 3 (by omega) (by omega)
          have hx7 := HQ.out.2
          obtain ⟨q1n, a1, a2⟩ := HQ.out.1
          have r7 := HR.out.1.left HR.out.2.1.size a1 (callF_on HR.out.1.on1 _) a2 hx7
          have bW7 := HR.out.2.1.trans (HR.out.1.below1 HR.out.2.1.size hx7)
          have hq1n : q1n.s = q1.s := a2.1.trans hq1
          clear hx7 a1 a2 bE7 HQ
          generalize hX : (callF S1 D1 ⟨od, ol, op, on, orp, ob, os.tmod 500, oll⟩).1 = X at *
          have HX := hid hX
          clear hX
          by_cases he : m = n
          · subst he
            have hsame := apart_same hA ⟨od, ol, op, on, orp, ob, os.tmod 500, oll⟩ hm3
            rw [HX.out] at hsame
            have hbe : ((m : Int) == (m : Int)) = true := beq_self_eq_true _
            have hc := law_call r7.at2 r7.on2 _ HR.out.2.2.2.2 (.slice bg ob.length bc) (.slice lg oll.length lc) (hb.keep bW7)
            rw [hq2] at hc
            have HC := hid hc
            have HR7 := hid (And.intro r7 (And.intro bW7 hq1n))
            have Hm := hid hm3
            clear hc r7 bW7 HR hq1n hm3
            go_wp2_with fail
            refine HC.out.mono ?_
            rintro e W8 hpost
            have HQ := hid hpost.2
            obtain ⟨rfl, _⟩ := hpost
            clear HC e0 e1 e2 e3 e4 e5 e6 e7
            have hx8 := HQ.out.2
            obtain ⟨q2n, a1, a2⟩ := HQ.out.1
            have r8 := HR7.out.1.right HR7.out.2.1.size a1 (callF_on HR7.out.1.on2 _) a2 hx8
            have bW8 := HR7.out.2.1.trans (HR7.out.1.below2 HR7.out.2.1.size hx8)
            have hq2n : q2n.s = q2.s := a2.1.trans hq2
            clear hx8 a1 a2 HQ
            rcases hsame with ⟨hs, hA'⟩ | ⟨hs1, hs2⟩
            · rw [hs]
              have HA := hid hA'
              have H8 := hid (And.intro r8 (And.intro bW8 hq2n))
              clear hs hA' r8 bW8 hq2n
              go_wp2_with fail
              go_roundw
              case rel => exact ⟨k + 1, q1n, q2n, _, _, _, _, by omega, by omega, by go_num, HR7.out.2.2, H8.out.2.2, H8.out.1, HA.out, H8.out.2.1⟩
              case measure => simp [intOf]; omega
            · generalize (callF S2 D2 ⟨od, ol, op, on, orp, ob, os.tmod 500, oll⟩).1 = Y at *
              have hne : (Y != X) = true := by rw [bne_iff_ne, hs1]; exact hs2
              have h7 : (X == 7) = true := beq_iff_eq.2 hs1
              have H8 := hid bW8
              clear hs1 hs2 r8 bW8 hq2n
              go_wp2_with fail
              go_ret
              exact ⟨rfl, H8.out⟩
          · have hbe : ((m : Int) == (n : Int)) = false := beq_eq_false_iff_ne.2 (by omega)
            have hA' := apart_other hA ⟨od, ol, op, on, orp, ob, os.tmod 500, oll⟩ (by simp only; rw [hm3]; omega)
            have HA := hid hA'
            have H7 := hid (And.intro r7 (And.intro bW7 hq1n))
            clear hA' r7 bW7 HR hq1n hm3
            go_wp2_with fail
            go_roundw
            case rel => exact ⟨k + 1, q1n, _, _, _, _, _, by omega, by omega, by go_num, H7.out.2.2, hq2, H7.out.1, HA.out, H7.out.2.1⟩
            case measure => simp [intOf]; omega
        · clear ho' bE hEq
          have hin' : od < 0 ∨ 2 < od := by omega
          have H6 := hid (And.intro r6 (And.intro bW6 hA))
          clear r6 bW6 bW r hA
          rcases hin' with hin' | hin'
          · go_wp2_with fail
            go_roundw
            case rel => exact ⟨k + 1, _, _, _, _, _, _, by omega, by omega, by go_num, hq1, hq2, H6.out.1, H6.out.2.2, H6.out.2.1⟩
            case measure => simp [intOf]; omega
          · go_wp2_with fail
            go_roundw
            case rel => exact ⟨k + 1, _, _, _, _, _, _, by omega, by omega, by go_num, hq1, hq2, H6.out.1, H6.out.2.2, H6.out.2.1⟩
            case measure => simp [intOf]; omega
    · -- behind the loop
      have hor : (k < l.length ∧ ¬ k < 60) ∨ ¬ k < l.length := by omega
      clear hvk hlt
      rcases hor with ⟨h1, h2⟩ | h1
      · have hd1 : decide ((k : Int) < (l.length : Int)) = true := decide_eq_true (by omega)
        have hd2 : decide ((k : Int) < 60) = false := decide_eq_false (by omega)
        go_wp2_with fail
        clear h1 h2
        have hL := law_look r.at1
        rw [hq1] at hL
        refine hL.mono ?_
        rintro e W9 ⟨rfl, b9⟩
        clear hL
        have r9 := r.keep b9
        have bW9 := bW.trans (b9.mono bW.size)
        clear r b9 bW
        have hZ := Blk.new W9 (#[.string ⟨#[]⟩, .string ⟨#[]⟩, .string ⟨#[]⟩, .string ⟨#[]⟩, .string ⟨#[]⟩, .string ⟨#[]⟩, .string ⟨#[]⟩, .string ⟨#[]⟩, .string ⟨#[]⟩, .string ⟨#[]⟩, .string ⟨#[]⟩, .string ⟨#[]⟩, .string ⟨#[]⟩, .string ⟨#[]⟩, .string ⟨#[]⟩, .string ⟨#[]⟩, .string ⟨#[]⟩, .string ⟨#[]⟩, .bool false, .bool false, .bool false, .bool false, .bool false, .bool false, .bool false, .bool false, .bool false, .bool false, .bool false, .bool false, .bool false, .bool false, .bool false, .bool false, .bool false, .bool false, .bool false, .bool false, .bool false, .int .i64 0, .int .i64 0, .int .i64 0]) 44
        have bz := (Below.refl W9.heap.size W9).alloc (Nat.le_refl _) (.cells (#[.string ⟨#[]⟩, .string ⟨#[]⟩, .string ⟨#[]⟩, .string ⟨#[]⟩, .string ⟨#[]⟩, .string ⟨#[]⟩, .string ⟨#[]⟩, .string ⟨#[]⟩, .string ⟨#[]⟩, .string ⟨#[]⟩, .string ⟨#[]⟩, .string ⟨#[]⟩, .string ⟨#[]⟩, .string ⟨#[]⟩, .string ⟨#[]⟩, .string ⟨#[]⟩, .string ⟨#[]⟩, .string ⟨#[]⟩, .bool false, .bool false, .bool false, .bool false, .bool false, .bool false, .bool false, .bool false, .bool false, .bool false, .bool false, .bool false, .bool false, .bool false, .bool false, .bool false, .bool false, .bool false, .bool false, .bool false, .bool false, .int .i64 0, .int .i64 0, .int .i64 0]) 44)
        have r9z := r9.keep bz
        have bW9z := bW9.trans (bz.mono bW9.size)
        have hq9 : ∀ b, b = W9.heap.size → ¬ (QQ1.all b ∨ QQ2.all b) := fun b e h => by
          rcases h with h | h
          · have := r9.at1.size h; omega
          · have := r9.at2.size h; omega
        have H9 := hid (And.intro r9z (And.intro bW9z hq9))
        have HB9 := hid bW9.size
        have HZ := hid hZ
        clear r9 bW9 bz r9z bW9z hq9
        go_wp2_with (refine wpList_store_row rfl 44 _ _ rfl W9.heap.size (told S1) rfl rfl 44 _ hZ (by rw [told_size]; exact size_told) (by rw [told_size]; rfl) (told_all S1) ?_)
        clear hZ
        obtain ⟨W10, hW10⟩ : ∃ W10, (W9.alloc (.cells (#[.string ⟨#[]⟩, .string ⟨#[]⟩, .string ⟨#[]⟩, .string ⟨#[]⟩, .string ⟨#[]⟩, .string ⟨#[]⟩, .string ⟨#[]⟩, .string ⟨#[]⟩, .string ⟨#[]⟩, .string ⟨#[]⟩, .string ⟨#[]⟩, .string ⟨#[]⟩, .string ⟨#[]⟩, .string ⟨#[]⟩, .string ⟨#[]⟩, .string ⟨#[]⟩, .string ⟨#[]⟩, .string ⟨#[]⟩, .bool false, .bool false, .bool false, .bool false, .bool false, .bool false, .bool false, .bool false, .bool false, .bool false, .bool false, .bool false, .bool false, .bool false, .bool false, .bool false, .bool false, .bool false, .bool false, .bool false, .bool false, .int .i64 0, .int .i64 0, .int .i64 0]) 44)).setRow W9.heap.size (told S1) = W10 := ⟨_, rfl⟩
        have kT := HZ.out.setRow (told S1)
        have x10 : Ext (fun b => b = W9.heap.size) (W9.alloc (.cells (#[.string ⟨#[]⟩, .string ⟨#[]⟩, .string ⟨#[]⟩, .string ⟨#[]⟩, .string ⟨#[]⟩, .string ⟨#[]⟩, .string ⟨#[]⟩, .string ⟨#[]⟩, .string ⟨#[]⟩, .string ⟨#[]⟩, .string ⟨#[]⟩, .string ⟨#[]⟩, .string ⟨#[]⟩, .string ⟨#[]⟩, .string ⟨#[]⟩, .string ⟨#[]⟩, .string ⟨#[]⟩, .string ⟨#[]⟩, .bool false, .bool false, .bool false, .bool false, .bool false, .bool false, .bool false, .bool false, .bool false, .bool false, .bool false, .bool false, .bool false, .bool false, .bool false, .bool false, .bool false, .bool false, .bool false, .bool false, .bool false, .int .i64 0, .int .i64 0, .int .i64 0]) 44)) W10 := by rw [← hW10]; exact (Ext.refl (fun b => b = W9.heap.size) _).grown (setRow_grown _ _ _) (fun k h => by cases h; exact .inl rfl)
        rw [hW10] at kT ⊢
        have r := H9.out.1.ext x10 H9.out.2.2
        have bW := H9.out.2.1.trans (x10.belowOf H9.out.2.1.size (fun b hb e => by have := HB9.out; omega))
        clear x10 hW10 H9 HB9 HZ
        generalize W9.heap.size = T1 at kT ⊢
        have HKT1 := hid kT
        clear kT
        have hL := law_look r.at2
        rw [hq2] at hL
        refine hL.mono ?_
        rintro e W11 ⟨rfl, b9⟩
        clear hL
        have r9 := r.keep b9
        have bW9 := bW.trans (b9.mono bW.size)
        have kq9 := HKT1.out.keep b9
        have kl9 := HKT1.out.lt
        have kl10 := b9.size
        clear r b9 bW
        have hZ := Blk.new W11 (#[.string ⟨#[]⟩, .string ⟨#[]⟩, .string ⟨#[]⟩, .string ⟨#[]⟩, .string ⟨#[]⟩, .string ⟨#[]⟩, .string ⟨#[]⟩, .string ⟨#[]⟩, .string ⟨#[]⟩, .string ⟨#[]⟩, .string ⟨#[]⟩, .string ⟨#[]⟩, .string ⟨#[]⟩, .string ⟨#[]⟩, .string ⟨#[]⟩, .string ⟨#[]⟩, .string ⟨#[]⟩, .string ⟨#[]⟩, .bool false, .bool false, .bool false, .bool false, .bool false, .bool false, .bool false, .bool false, .bool false, .bool false, .bool false, .bool false, .bool false, .bool false, .bool false, .bool false, .bool false, .bool false, .bool false, .bool false, .bool false, .int .i64 0, .int .i64 0, .int .i64 0]) 44
        have bz := (Below.refl W11.heap.size W11).alloc (Nat.le_refl _) (.cells (#[.string ⟨#[]⟩, .string ⟨#[]⟩, .string ⟨#[]⟩, .string ⟨#[]⟩, .string ⟨#[]⟩, .string ⟨#[]⟩, .string ⟨#[]⟩, .string ⟨#[]⟩, .string ⟨#[]⟩, .string ⟨#[]⟩, .string ⟨#[]⟩, .string ⟨#[]⟩, .string ⟨#[]⟩, .string ⟨#[]⟩, .string ⟨#[]⟩, .string ⟨#[]⟩, .string ⟨#[]⟩, .string ⟨#[]⟩, .bool false, .bool false, .bool false, .bool false, .bool false, .bool false, .bool false, .bool false, .bool false, .bool false, .bool false, .bool false, .bool false, .bool false, .bool false, .bool false, .bool false, .bool false, .bool false, .bool false, .bool false, .int .i64 0, .int .i64 0, .int .i64 0]) 44)
        have r9z := r9.keep bz
        have bW9z := bW9.trans (bz.mono bW9.size)
        have kqz := hid (kq9.keep bz)
        have kl := hid (show T1 ≠ W11.heap.size by omega)
        clear kq9 kl9 kl10 HKT1
        have hq9 : ∀ b, b = W11.heap.size → ¬ (QQ1.all b ∨ QQ2.all b) := fun b e h => by
          rcases h with h | h
          · have := r9.at1.size h; omega
          · have := r9.at2.size h; omega
        have H9 := hid (And.intro r9z (And.intro bW9z hq9))
        have HB9 := hid bW9.size
        have HZ := hid hZ
        clear r9 bW9 bz r9z bW9z hq9
        go_wp2_with (refine wpList_store_row rfl 44 _ _ rfl W11.heap.size (told S2) rfl rfl 44 _ hZ (by rw [told_size]; exact size_told) (by rw [told_size]; rfl) (told_all S2) ?_)
        clear hZ
        obtain ⟨W12, hW12⟩ : ∃ W12, (W11.alloc (.cells (#[.string ⟨#[]⟩, .string ⟨#[]⟩, .string ⟨#[]⟩, .string ⟨#[]⟩, .string ⟨#[]⟩, .string ⟨#[]⟩, .string ⟨#[]⟩, .string ⟨#[]⟩, .string ⟨#[]⟩, .string ⟨#[]⟩, .string ⟨#[]⟩, .string ⟨#[]⟩, .string ⟨#[]⟩, .string ⟨#[]⟩, .string ⟨#[]⟩, .string ⟨#[]⟩, .string ⟨#[]⟩, .string ⟨#[]⟩, .bool false, .bool false, .bool false, .bool false, .bool false, .bool false, .bool false, .bool false, .bool false, .bool false, .bool false, .bool false, .bool false, .bool false, .bool false, .bool false, .bool false, .bool false, .bool false, .bool false, .bool false, .int .i64 0, .int .i64 0, .int .i64 0]) 44)).setRow W11.heap.size (told S2) = W12 := ⟨_, rfl⟩
        have kT := HZ.out.setRow (told S2)
        have x10 : Ext (fun b => b = W11.heap.size) (W11.alloc (.cells (#[.string ⟨#[]⟩, .string ⟨#[]⟩, .string ⟨#[]⟩, .string ⟨#[]⟩, .string ⟨#[]⟩, .string ⟨#[]⟩, .string ⟨#[]⟩, .string ⟨#[]⟩, .string ⟨#[]⟩, .string ⟨#[]⟩, .string ⟨#[]⟩, .string ⟨#[]⟩, .string ⟨#[]⟩, .string ⟨#[]⟩, .string ⟨#[]⟩, .string ⟨#[]⟩, .string ⟨#[]⟩, .string ⟨#[]⟩, .bool false, .bool false, .bool false, .bool false, .bool false, .bool false, .bool false, .bool false, .bool false, .bool false, .bool false, .bool false, .bool false, .bool false, .bool false, .bool false, .bool false, .bool false, .bool false, .bool false, .bool false, .int .i64 0, .int .i64 0, .int .i64 0]) 44)) W12 := by rw [← hW12]; exact (Ext.refl (fun b => b = W11.heap.size) _).grown (setRow_grown _ _ _) (fun k h => by cases h; exact .inl rfl)
        rw [hW12] at kT ⊢
        have r := H9.out.1.ext x10 H9.out.2.2
        have bW := H9.out.2.1.trans (x10.belowOf H9.out.2.1.size (fun b hb e => by have := HB9.out; omega))
        have HKT1 := hid (kqz.out.ext x10 (fun e => kl.out e))
        clear kqz kl
        clear x10 hW12 H9 HB9 HZ
        generalize W11.heap.size = T2 at kT ⊢
        have HKT2 := hid kT
        clear kT
        have HT1 := hid HKT1.out
        have HT2 := hid HKT2.out
        have HR := hid r
        have HBW := hid bW
        have HQ1 := hid hq1
        have HQ2 := hid hq2
        have HA := hid hA
        obtain ⟨sl, hsl⟩ : ∃ sl, (S1.get (n : Int)).2.2 = sl := ⟨_, rfl⟩
        obtain ⟨tr, htr⟩ : ∃ tr, (S1.get (n : Int)).2.1 = tr := ⟨_, rfl⟩
        obtain ⟨tl, htl⟩ : ∃ tl, max (S1.get (n : Int)).1 (S1.get (n : Int)).2.1 = tl := ⟨_, rfl⟩
        have HSL := hid hsl
        have HTR := hid htr
        have HTL := hid htl
        have hn3 : n < 3 := by omega
        clear HKT1 HKT2 r bW hq1 hq2 hA hsl htr htl hv hi
        refine wp_region_invG rfl Grows (fun i v x => match i with
            | 0 => v = .bool true
            | 1 => v = .bool true
            | 2 => v = .bool true
            | 3 => v = .bool true
            | 4 => v = .bool true
            | 5 => v = .int .i64 (n : Int)
            | 6 => v = .pointer (some ⟨T1, 0, none⟩)
            | 7 => v = .pointer (some ⟨T1, n * 6, none⟩)
            | 8 => v = .agg #[tData S1 (n * 6), tData S1 (n * 6 + 1), tData S1 (n * 6 + 2), tData S1 (n * 6 + 3), tData S1 (n * 6 + 4), tData S1 (n * 6 + 5)]
            | 9 => v = .int .i64 (n : Int)
            | 10 => v = .pointer (some ⟨T2, 0, none⟩)
            | 11 => v = .pointer (some ⟨T2, n * 6, none⟩)
            | 12 => v = .agg #[tData S1 (n * 6), tData S1 (n * 6 + 1), tData S1 (n * 6 + 2), tData S1 (n * 6 + 3), tData S1 (n * 6 + 4), tData S1 (n * 6 + 5)]
            | 13 => v = .bool true
            | 14 => v = .bool true
            | 15 => v = .bool true
            | 16 => v = .int .i64 (n : Int)
            | 17 => v = .pointer (some ⟨T1, 18, none⟩)
            | 18 => v = .pointer (some ⟨T1, 18 + n * 6, none⟩)
            | 19 => v = .agg #[tThere S1 (n * 6), tThere S1 (n * 6 + 1), tThere S1 (n * 6 + 2), tThere S1 (n * 6 + 3), tThere S1 (n * 6 + 4), tThere S1 (n * 6 + 5)]
            | 20 => v = .int .i64 (n : Int)
            | 21 => v = .pointer (some ⟨T2, 18, none⟩)
            | 22 => v = .pointer (some ⟨T2, 18 + n * 6, none⟩)
            | 23 => v = .agg #[tThere S1 (n * 6), tThere S1 (n * 6 + 1), tThere S1 (n * 6 + 2), tThere S1 (n * 6 + 3), tThere S1 (n * 6 + 4), tThere S1 (n * 6 + 5)]
            | 24 => v = .bool true
            | 25 => v = .bool true
            | 26 => v = .bool true
            | 27 => v = .int .i64 (n : Int)
            | 28 => v = .pointer (some ⟨T1, 36, none⟩)
            | 29 => v = .pointer (some ⟨T1, 36 + n, none⟩)
            | 30 => v = .bool sl
            | 31 => v = .int .i64 (n : Int)
            | 32 => v = .pointer (some ⟨T2, 36, none⟩)
            | 33 => v = .pointer (some ⟨T2, 36 + n, none⟩)
            | 34 => v = .bool sl
            | 35 => v = .bool true
            | 36 => v = .bool true
            | 37 => v = .bool true
            | 38 => v = .int .i64 (n : Int)
            | 39 => v = .pointer (some ⟨T1, 39, none⟩)
            | 40 => v = .pointer (some ⟨T1, 39 + n, none⟩)
            | 41 => v = .int .i64 tr
            | 42 => v = .int .i64 (n : Int)
            | 43 => v = .pointer (some ⟨T2, 39, none⟩)
            | 44 => v = .pointer (some ⟨T2, 39 + n, none⟩)
            | 45 => v = .int .i64 tr
            | 46 => v = .bool true
            | 47 => v = .bool true
            | 48 => v = .bool true
            | 49 => v = .pointer (some ⟨q1.s, 0, none⟩)
            | 50 => v = .int .i64 (n : Int)
            | 51 => v = .int .i64 tl
            | 52 => v = .pointer (some ⟨q2.s, 0, none⟩)
            | 53 => v = .int .i64 (n : Int)
            | 54 => v = .int .i64 tl
            | 55 => v = .bool true
            | 56 => v = .bool true
            | 57 => v = .bool true
            | _ => True) (by kernel_rfl) Grows.refl Grows.trans ?rstab ?rsteps ?rfin
        case rstab =>
          intro i v x y hg h
          match i with
          | 0 | 1 | 2 | 3 | 4 | 5 | 6 | 7 | 8 | 9 | 10 | 11 | 12 | 13 | 14 | 15 | 16 | 17 | 18 | 19 | 20 | 21 | 22 | 23 | 24 | 25 | 26 | 27 | 28 | 29 | 30 | 31 | 32 | 33 | 34 | 35 | 36 | 37 | 38 | 39 | 40 | 41 | 42 | 43 | 44 | 45 | 46 | 47 | 48 | 49 | 50 | 51 | 52 | 53 | 54 | 55 | 56 | 57 => exact h
          | n + 58 => trivial
        case rsteps =>
          refine ⟨?_, ?_, ?_, ?_, ?_, ?_, ?_, ?_, ?_, ?_, ?_, ?_, ?_, ?_, ?_, ?_, ?_, ?_, ?_, ?_, ?_, ?_, ?_, ?_, ?_, ?_, ?_, ?_, ?_, ?_, ?_, ?_, ?_, ?_, ?_, ?_, ?_, ?_, ?_, ?_, ?_, ?_, ?_, ?_, ?_, ?_, ?_, ?_, ?_, ?_, ?_, ?_, ?_, ?_, ?_, ?_, ?_, ?_, trivial⟩
          · intro a x hA
            refine .inl ⟨rfl, ?_⟩
            have t17 := hA.at_ 17 (by rfl) rfl
            refine step_value (w' := x) (v := .bool true) ?_ (Grows.refl _) ?_
            · go_simp
            · rfl
          · intro a x hA
            refine .inl ⟨rfl, ?_⟩
            have t121 : a.tmps[121]?.getD undef = .bool true := hA.dep_ ⟨0, .data⟩ (by simp) _ 121 rfl rfl
            refine step_value (w' := x) (v := .bool true) ?_ (Grows.refl _) ?_
            · go_simp
            · rfl
          · intro a x hA
            have tg : a.tmps[122]?.getD undef = .bool true := hA.dep_ ⟨1, .guard⟩ (by simp) _ 122 rfl rfl
            refine .inl ⟨by rw [wanted_of (j := 1) rfl (yielded_of (by rfl) rfl tg)]; rfl, ?_⟩
            clear tg
            have t19 := hA.at_ 19 (by rfl) rfl
            refine step_value (w' := x) (v := .bool true) ?_ (Grows.refl _) ?_
            · go_simp
            · rfl
          · intro a x hA
            refine .inl ⟨rfl, ?_⟩
            have t122 : a.tmps[122]?.getD undef = .bool true := hA.dep_ ⟨1, .data⟩ (by simp) _ 122 rfl rfl
            have t123 : a.tmps[123]?.getD undef = .bool true := hA.dep_ ⟨2, .data⟩ (by simp) _ 123 rfl rfl
            refine step_value (w' := x) (v := .bool true) ?_ (Grows.refl _) ?_
            · go_simp
            · rfl
          · intro a x hA
            refine .inl ⟨rfl, ?_⟩
            have t124 : a.tmps[124]?.getD undef = .bool true := hA.dep_ ⟨3, .data⟩ (by simp) _ 124 rfl rfl
            refine step_value (w' := x) (v := .bool true) ?_ (Grows.refl _) ?_
            · go_simp
            · rfl
          · intro a x hA
            have tg : a.tmps[125]?.getD undef = .bool true := hA.dep_ ⟨4, .guard⟩ (by simp) _ 125 rfl rfl
            refine .inl ⟨by rw [wanted_of (j := 4) rfl (yielded_of (by rfl) rfl tg)]; rfl, ?_⟩
            clear tg
            have t1 := hA.at_ 1 (by rfl) rfl
            refine step_value (w' := x) (v := .int .i64 (n : Int)) ?_ (Grows.refl _) ?_
            · go_simp
            · rfl
          · intro a x hA
            have tg : a.tmps[125]?.getD undef = .bool true := hA.dep_ ⟨4, .guard⟩ (by simp) _ 125 rfl rfl
            refine .inl ⟨by rw [wanted_of (j := 4) rfl (yielded_of (by rfl) rfl tg)]; rfl, ?_⟩
            clear tg
            have t16 := hA.at_ 16 (by rfl) rfl
            refine step_value (w' := x) (v := .pointer (some ⟨T1, 0, none⟩)) ?_ (Grows.refl _) ?_
            · go_simp
            · rfl
          · intro a x hA
            have tg : a.tmps[125]?.getD undef = .bool true := hA.dep_ ⟨4, .guard⟩ (by simp) _ 125 rfl rfl
            refine .inl ⟨by rw [wanted_of (j := 4) rfl (yielded_of (by rfl) rfl tg)]; rfl, ?_⟩
            clear tg
            have t127 : a.tmps[127]?.getD undef = .pointer (some ⟨T1, 0, none⟩) := hA.dep_ ⟨6, .data⟩ (by simp) _ 127 rfl rfl
            have t126 : a.tmps[126]?.getD undef = .int .i64 (n : Int) := hA.dep_ ⟨5, .data⟩ (by simp) _ 126 rfl rfl
            refine step_value (w' := x) (v := .pointer (some ⟨T1, n * 6, none⟩)) ?_ (Grows.refl _) ?_
            · go_simp
            · rfl
          · intro a x hA
            have tg : a.tmps[125]?.getD undef = .bool true := hA.dep_ ⟨4, .guard⟩ (by simp) _ 125 rfl rfl
            refine .inl ⟨by rw [wanted_of (j := 4) rfl (yielded_of (by rfl) rfl tg)]; rfl, ?_⟩
            clear tg
            have t128 : a.tmps[128]?.getD undef = .pointer (some ⟨T1, n * 6, none⟩) := hA.dep_ ⟨7, .data⟩ (by simp) _ 128 rfl rfl
            have hb := HT1.out.keep hA.grown
            have g0 : x.cell? ⟨T1, n * 6, none⟩ = some (tData S1 (n * 6)) := hb.cell (o := n * 6) (told_data S1 (n * 6) (by omega))
            have g1 : x.cell? ⟨T1, n * 6 + 1, none⟩ = some (tData S1 (n * 6 + 1)) := hb.cell (o := n * 6 + 1) (told_data S1 (n * 6 + 1) (by omega))
            have g2 : x.cell? ⟨T1, n * 6 + 2, none⟩ = some (tData S1 (n * 6 + 2)) := hb.cell (o := n * 6 + 2) (told_data S1 (n * 6 + 2) (by omega))
            have g3 : x.cell? ⟨T1, n * 6 + 3, none⟩ = some (tData S1 (n * 6 + 3)) := hb.cell (o := n * 6 + 3) (told_data S1 (n * 6 + 3) (by omega))
            have g4 : x.cell? ⟨T1, n * 6 + 4, none⟩ = some (tData S1 (n * 6 + 4)) := hb.cell (o := n * 6 + 4) (told_data S1 (n * 6 + 4) (by omega))
            have g5 : x.cell? ⟨T1, n * 6 + 5, none⟩ = some (tData S1 (n * 6 + 5)) := hb.cell (o := n * 6 + 5) (told_data S1 (n * 6 + 5) (by omega))
            clear hb
            refine step_value (w' := x) (v := .agg #[tData S1 (n * 6), tData S1 (n * 6 + 1), tData S1 (n * 6 + 2), tData S1 (n * 6 + 3), tData S1 (n * 6 + 4), tData S1 (n * 6 + 5)]) ?_ (Grows.refl _) ?_
            · go_simp
            · rfl
          · intro a x hA
            have tg : a.tmps[125]?.getD undef = .bool true := hA.dep_ ⟨4, .guard⟩ (by simp) _ 125 rfl rfl
            refine .inl ⟨by rw [wanted_of (j := 4) rfl (yielded_of (by rfl) rfl tg)]; rfl, ?_⟩
            clear tg
            have t1 := hA.at_ 1 (by rfl) rfl
            refine step_value (w' := x) (v := .int .i64 (n : Int)) ?_ (Grows.refl _) ?_
            · go_simp
            · rfl
          · intro a x hA
            have tg : a.tmps[125]?.getD undef = .bool true := hA.dep_ ⟨4, .guard⟩ (by simp) _ 125 rfl rfl
            refine .inl ⟨by rw [wanted_of (j := 4) rfl (yielded_of (by rfl) rfl tg)]; rfl, ?_⟩
            clear tg
            have t18 := hA.at_ 18 (by rfl) rfl
            refine step_value (w' := x) (v := .pointer (some ⟨T2, 0, none⟩)) ?_ (Grows.refl _) ?_
            · go_simp
            · rfl
          · intro a x hA
            have tg : a.tmps[125]?.getD undef = .bool true := hA.dep_ ⟨4, .guard⟩ (by simp) _ 125 rfl rfl
            refine .inl ⟨by rw [wanted_of (j := 4) rfl (yielded_of (by rfl) rfl tg)]; rfl, ?_⟩
            clear tg
            have t131 : a.tmps[131]?.getD undef = .pointer (some ⟨T2, 0, none⟩) := hA.dep_ ⟨10, .data⟩ (by simp) _ 131 rfl rfl
            have t130 : a.tmps[130]?.getD undef = .int .i64 (n : Int) := hA.dep_ ⟨9, .data⟩ (by simp) _ 130 rfl rfl
            refine step_value (w' := x) (v := .pointer (some ⟨T2, n * 6, none⟩)) ?_ (Grows.refl _) ?_
            · go_simp
            · rfl
          · intro a x hA
            have tg : a.tmps[125]?.getD undef = .bool true := hA.dep_ ⟨4, .guard⟩ (by simp) _ 125 rfl rfl
            refine .inl ⟨by rw [wanted_of (j := 4) rfl (yielded_of (by rfl) rfl tg)]; rfl, ?_⟩
            clear tg
            have t132 : a.tmps[132]?.getD undef = .pointer (some ⟨T2, n * 6, none⟩) := hA.dep_ ⟨11, .data⟩ (by simp) _ 132 rfl rfl
            have hb := HT2.out.keep hA.grown
            have g0 : x.cell? ⟨T2, n * 6, none⟩ = some (tData S1 (n * 6)) := hb.cell (o := n * 6) (by rw [← apart_tData HA.out (n * 6) (by omega)]; exact told_data S2 (n * 6) (by omega))
            have g1 : x.cell? ⟨T2, n * 6 + 1, none⟩ = some (tData S1 (n * 6 + 1)) := hb.cell (o := n * 6 + 1) (by rw [← apart_tData HA.out (n * 6 + 1) (by omega)]; exact told_data S2 (n * 6 + 1) (by omega))
            have g2 : x.cell? ⟨T2, n * 6 + 2, none⟩ = some (tData S1 (n * 6 + 2)) := hb.cell (o := n * 6 + 2) (by rw [← apart_tData HA.out (n * 6 + 2) (by omega)]; exact told_data S2 (n * 6 + 2) (by omega))
            have g3 : x.cell? ⟨T2, n * 6 + 3, none⟩ = some (tData S1 (n * 6 + 3)) := hb.cell (o := n * 6 + 3) (by rw [← apart_tData HA.out (n * 6 + 3) (by omega)]; exact told_data S2 (n * 6 + 3) (by omega))
            have g4 : x.cell? ⟨T2, n * 6 + 4, none⟩ = some (tData S1 (n * 6 + 4)) := hb.cell (o := n * 6 + 4) (by rw [← apart_tData HA.out (n * 6 + 4) (by omega)]; exact told_data S2 (n * 6 + 4) (by omega))
            have g5 : x.cell? ⟨T2, n * 6 + 5, none⟩ = some (tData S1 (n * 6 + 5)) := hb.cell (o := n * 6 + 5) (by rw [← apart_tData HA.out (n * 6 + 5) (by omega)]; exact told_data S2 (n * 6 + 5) (by omega))
            clear hb
            refine step_value (w' := x) (v := .agg #[tData S1 (n * 6), tData S1 (n * 6 + 1), tData S1 (n * 6 + 2), tData S1 (n * 6 + 3), tData S1 (n * 6 + 4), tData S1 (n * 6 + 5)]) ?_ (Grows.refl _) ?_
            · go_simp
            · rfl
          · intro a x hA
            have tg : a.tmps[125]?.getD undef = .bool true := hA.dep_ ⟨4, .guard⟩ (by simp) _ 125 rfl rfl
            refine .inl ⟨by rw [wanted_of (j := 4) rfl (yielded_of (by rfl) rfl tg)]; rfl, ?_⟩
            clear tg
            have t129 : a.tmps[129]?.getD undef = .agg #[tData S1 (n * 6), tData S1 (n * 6 + 1), tData S1 (n * 6 + 2), tData S1 (n * 6 + 3), tData S1 (n * 6 + 4), tData S1 (n * 6 + 5)] := hA.dep_ ⟨8, .data⟩ (by simp) _ 129 rfl rfl
            have t133 : a.tmps[133]?.getD undef = .agg #[tData S1 (n * 6), tData S1 (n * 6 + 1), tData S1 (n * 6 + 2), tData S1 (n * 6 + 3), tData S1 (n * 6 + 4), tData S1 (n * 6 + 5)] := hA.dep_ ⟨12, .data⟩ (by simp) _ 133 rfl rfl
            exact step_value (w' := x) (v := .bool true) (run_eql_same (cs := #[tData S1 (n * 6), tData S1 (n * 6 + 1), tData S1 (n * 6 + 2), tData S1 (n * 6 + 3), tData S1 (n * 6 + 4), tData S1 (n * 6 + 5)]) rfl (eval_of t129) (eval_of t133) guard_6string (same_6string (d := 9998) (str6 S1 _ _ _ _ _ _)) x) (Grows.refl _) rfl
          · intro a x hA
            refine .inl ⟨rfl, ?_⟩
            have t125 : a.tmps[125]?.getD undef = .bool true := hA.dep_ ⟨4, .data⟩ (by simp) _ 125 rfl rfl
            have t134 : a.tmps[134]?.getD undef = .bool true := hA.dep_ ⟨13, .data⟩ (by simp) _ 134 rfl rfl
            refine step_value (w' := x) (v := .bool true) ?_ (Grows.refl _) ?_
            · go_simp
            · rfl
          · intro a x hA
            refine .inl ⟨rfl, ?_⟩
            have t135 : a.tmps[135]?.getD undef = .bool true := hA.dep_ ⟨14, .data⟩ (by simp) _ 135 rfl rfl
            refine step_value (w' := x) (v := .bool true) ?_ (Grows.refl _) ?_
            · go_simp
            · rfl
          · intro a x hA
            have tg : a.tmps[136]?.getD undef = .bool true := hA.dep_ ⟨15, .guard⟩ (by simp) _ 136 rfl rfl
            refine .inl ⟨by rw [wanted_of (j := 15) rfl (yielded_of (by rfl) rfl tg)]; rfl, ?_⟩
            clear tg
            have t1 := hA.at_ 1 (by rfl) rfl
            refine step_value (w' := x) (v := .int .i64 (n : Int)) ?_ (Grows.refl _) ?_
            · go_simp
            · rfl
          · intro a x hA
            have tg : a.tmps[136]?.getD undef = .bool true := hA.dep_ ⟨15, .guard⟩ (by simp) _ 136 rfl rfl
            refine .inl ⟨by rw [wanted_of (j := 15) rfl (yielded_of (by rfl) rfl tg)]; rfl, ?_⟩
            clear tg
            have t16 := hA.at_ 16 (by rfl) rfl
            refine step_value (w' := x) (v := .pointer (some ⟨T1, 18, none⟩)) ?_ (Grows.refl _) ?_
            · go_simp
            · rfl
          · intro a x hA
            have tg : a.tmps[136]?.getD undef = .bool true := hA.dep_ ⟨15, .guard⟩ (by simp) _ 136 rfl rfl
            refine .inl ⟨by rw [wanted_of (j := 15) rfl (yielded_of (by rfl) rfl tg)]; rfl, ?_⟩
            clear tg
            have t138 : a.tmps[138]?.getD undef = .pointer (some ⟨T1, 18, none⟩) := hA.dep_ ⟨17, .data⟩ (by simp) _ 138 rfl rfl
            have t137 : a.tmps[137]?.getD undef = .int .i64 (n : Int) := hA.dep_ ⟨16, .data⟩ (by simp) _ 137 rfl rfl
            refine step_value (w' := x) (v := .pointer (some ⟨T1, 18 + n * 6, none⟩)) ?_ (Grows.refl _) ?_
            · go_simp
            · rfl
          · intro a x hA
            have tg : a.tmps[136]?.getD undef = .bool true := hA.dep_ ⟨15, .guard⟩ (by simp) _ 136 rfl rfl
            refine .inl ⟨by rw [wanted_of (j := 15) rfl (yielded_of (by rfl) rfl tg)]; rfl, ?_⟩
            clear tg
            have t139 : a.tmps[139]?.getD undef = .pointer (some ⟨T1, 18 + n * 6, none⟩) := hA.dep_ ⟨18, .data⟩ (by simp) _ 139 rfl rfl
            have hb := HT1.out.keep hA.grown
            have g0 : x.cell? ⟨T1, 18 + n * 6, none⟩ = some (tThere S1 (n * 6)) := hb.cell (o := 18 + n * 6) (told_there S1 (n * 6) (by omega))
            have g1 : x.cell? ⟨T1, 18 + n * 6 + 1, none⟩ = some (tThere S1 (n * 6 + 1)) := hb.cell (o := 18 + n * 6 + 1) (by rw [Nat.add_assoc]; exact told_there S1 (n * 6 + 1) (by omega))
            have g2 : x.cell? ⟨T1, 18 + n * 6 + 2, none⟩ = some (tThere S1 (n * 6 + 2)) := hb.cell (o := 18 + n * 6 + 2) (by rw [Nat.add_assoc]; exact told_there S1 (n * 6 + 2) (by omega))
            have g3 : x.cell? ⟨T1, 18 + n * 6 + 3, none⟩ = some (tThere S1 (n * 6 + 3)) := hb.cell (o := 18 + n * 6 + 3) (by rw [Nat.add_assoc]; exact told_there S1 (n * 6 + 3) (by omega))
            have g4 : x.cell? ⟨T1, 18 + n * 6 + 4, none⟩ = some (tThere S1 (n * 6 + 4)) := hb.cell (o := 18 + n * 6 + 4) (by rw [Nat.add_assoc]; exact told_there S1 (n * 6 + 4) (by omega))
            have g5 : x.cell? ⟨T1, 18 + n * 6 + 5, none⟩ = some (tThere S1 (n * 6 + 5)) := hb.cell (o := 18 + n * 6 + 5) (by rw [Nat.add_assoc]; exact told_there S1 (n * 6 + 5) (by omega))
            clear hb
            refine step_value (w' := x) (v := .agg #[tThere S1 (n * 6), tThere S1 (n * 6 + 1), tThere S1 (n * 6 + 2), tThere S1 (n * 6 + 3), tThere S1 (n * 6 + 4), tThere S1 (n * 6 + 5)]) ?_ (Grows.refl _) ?_
            · go_simp
            · rfl
          · intro a x hA
            have tg : a.tmps[136]?.getD undef = .bool true := hA.dep_ ⟨15, .guard⟩ (by simp) _ 136 rfl rfl
            refine .inl ⟨by rw [wanted_of (j := 15) rfl (yielded_of (by rfl) rfl tg)]; rfl, ?_⟩
            clear tg
            have t1 := hA.at_ 1 (by rfl) rfl
            refine step_value (w' := x) (v := .int .i64 (n : Int)) ?_ (Grows.refl _) ?_
            · go_simp
            · rfl
          · intro a x hA
            have tg : a.tmps[136]?.getD undef = .bool true := hA.dep_ ⟨15, .guard⟩ (by simp) _ 136 rfl rfl
            refine .inl ⟨by rw [wanted_of (j := 15) rfl (yielded_of (by rfl) rfl tg)]; rfl, ?_⟩
            clear tg
            have t18 := hA.at_ 18 (by rfl) rfl
            refine step_value (w' := x) (v := .pointer (some ⟨T2, 18, none⟩)) ?_ (Grows.refl _) ?_
            · go_simp
            · rfl
          · intro a x hA
            have tg : a.tmps[136]?.getD undef = .bool true := hA.dep_ ⟨15, .guard⟩ (by simp) _ 136 rfl rfl
            refine .inl ⟨by rw [wanted_of (j := 15) rfl (yielded_of (by rfl) rfl tg)]; rfl, ?_⟩
            clear tg
            have t142 : a.tmps[142]?.getD undef = .pointer (some ⟨T2, 18, none⟩) := hA.dep_ ⟨21, .data⟩ (by simp) _ 142 rfl rfl
            have t141 : a.tmps[141]?.getD undef = .int .i64 (n : Int) := hA.dep_ ⟨20, .data⟩ (by simp) _ 141 rfl rfl
            refine step_value (w' := x) (v := .pointer (some ⟨T2, 18 + n * 6, none⟩)) ?_ (Grows.refl _) ?_
            · go_simp
            · rfl
          · intro a x hA
            have tg : a.tmps[136]?.getD undef = .bool true := hA.dep_ ⟨15, .guard⟩ (by simp) _ 136 rfl rfl
            refine .inl ⟨by rw [wanted_of (j := 15) rfl (yielded_of (by rfl) rfl tg)]; rfl, ?_⟩
            clear tg
            have t143 : a.tmps[143]?.getD undef = .pointer (some ⟨T2, 18 + n * 6, none⟩) := hA.dep_ ⟨22, .data⟩ (by simp) _ 143 rfl rfl
            have hb := HT2.out.keep hA.grown
            have g0 : x.cell? ⟨T2, 18 + n * 6, none⟩ = some (tThere S1 (n * 6)) := hb.cell (o := 18 + n * 6) (by rw [← apart_tThere HA.out (n * 6) (by omega)]; exact told_there S2 (n * 6) (by omega))
            have g1 : x.cell? ⟨T2, 18 + n * 6 + 1, none⟩ = some (tThere S1 (n * 6 + 1)) := hb.cell (o := 18 + n * 6 + 1) (by rw [Nat.add_assoc, ← apart_tThere HA.out (n * 6 + 1) (by omega)]; exact told_there S2 (n * 6 + 1) (by omega))
            have g2 : x.cell? ⟨T2, 18 + n * 6 + 2, none⟩ = some (tThere S1 (n * 6 + 2)) := hb.cell (o := 18 + n * 6 + 2) (by rw [Nat.add_assoc, ← apart_tThere HA.out (n * 6 + 2) (by omega)]; exact told_there S2 (n * 6 + 2) (by omega))
            have g3 : x.cell? ⟨T2, 18 + n * 6 + 3, none⟩ = some (tThere S1 (n * 6 + 3)) := hb.cell (o := 18 + n * 6 + 3) (by rw [Nat.add_assoc, ← apart_tThere HA.out (n * 6 + 3) (by omega)]; exact told_there S2 (n * 6 + 3) (by omega))
            have g4 : x.cell? ⟨T2, 18 + n * 6 + 4, none⟩ = some (tThere S1 (n * 6 + 4)) := hb.cell (o := 18 + n * 6 + 4) (by rw [Nat.add_assoc, ← apart_tThere HA.out (n * 6 + 4) (by omega)]; exact told_there S2 (n * 6 + 4) (by omega))
            have g5 : x.cell? ⟨T2, 18 + n * 6 + 5, none⟩ = some (tThere S1 (n * 6 + 5)) := hb.cell (o := 18 + n * 6 + 5) (by rw [Nat.add_assoc, ← apart_tThere HA.out (n * 6 + 5) (by omega)]; exact told_there S2 (n * 6 + 5) (by omega))
            clear hb
            refine step_value (w' := x) (v := .agg #[tThere S1 (n * 6), tThere S1 (n * 6 + 1), tThere S1 (n * 6 + 2), tThere S1 (n * 6 + 3), tThere S1 (n * 6 + 4), tThere S1 (n * 6 + 5)]) ?_ (Grows.refl _) ?_
            · go_simp
            · rfl
          · intro a x hA
            have tg : a.tmps[136]?.getD undef = .bool true := hA.dep_ ⟨15, .guard⟩ (by simp) _ 136 rfl rfl
            refine .inl ⟨by rw [wanted_of (j := 15) rfl (yielded_of (by rfl) rfl tg)]; rfl, ?_⟩
            clear tg
            have t140 : a.tmps[140]?.getD undef = .agg #[tThere S1 (n * 6), tThere S1 (n * 6 + 1), tThere S1 (n * 6 + 2), tThere S1 (n * 6 + 3), tThere S1 (n * 6 + 4), tThere S1 (n * 6 + 5)] := hA.dep_ ⟨19, .data⟩ (by simp) _ 140 rfl rfl
            have t144 : a.tmps[144]?.getD undef = .agg #[tThere S1 (n * 6), tThere S1 (n * 6 + 1), tThere S1 (n * 6 + 2), tThere S1 (n * 6 + 3), tThere S1 (n * 6 + 4), tThere S1 (n * 6 + 5)] := hA.dep_ ⟨23, .data⟩ (by simp) _ 144 rfl rfl
            exact step_value (w' := x) (v := .bool true) (run_eql_same (cs := #[tThere S1 (n * 6), tThere S1 (n * 6 + 1), tThere S1 (n * 6 + 2), tThere S1 (n * 6 + 3), tThere S1 (n * 6 + 4), tThere S1 (n * 6 + 5)]) rfl (eval_of t140) (eval_of t144) guard_6bool (same_6bool (d := 9998) (bool6 S1 _ _ _ _ _ _)) x) (Grows.refl _) rfl
          · intro a x hA
            refine .inl ⟨rfl, ?_⟩
            have t136 : a.tmps[136]?.getD undef = .bool true := hA.dep_ ⟨15, .data⟩ (by simp) _ 136 rfl rfl
            have t145 : a.tmps[145]?.getD undef = .bool true := hA.dep_ ⟨24, .data⟩ (by simp) _ 145 rfl rfl
            refine step_value (w' := x) (v := .bool true) ?_ (Grows.refl _) ?_
            · go_simp
            · rfl
          · intro a x hA
            refine .inl ⟨rfl, ?_⟩
            have t146 : a.tmps[146]?.getD undef = .bool true := hA.dep_ ⟨25, .data⟩ (by simp) _ 146 rfl rfl
            refine step_value (w' := x) (v := .bool true) ?_ (Grows.refl _) ?_
            · go_simp
            · rfl
          · intro a x hA
            have tg : a.tmps[147]?.getD undef = .bool true := hA.dep_ ⟨26, .guard⟩ (by simp) _ 147 rfl rfl
            refine .inl ⟨by rw [wanted_of (j := 26) rfl (yielded_of (by rfl) rfl tg)]; rfl, ?_⟩
            clear tg
            have t1 := hA.at_ 1 (by rfl) rfl
            refine step_value (w' := x) (v := .int .i64 (n : Int)) ?_ (Grows.refl _) ?_
            · go_simp
            · rfl
          · intro a x hA
            have tg : a.tmps[147]?.getD undef = .bool true := hA.dep_ ⟨26, .guard⟩ (by simp) _ 147 rfl rfl
            refine .inl ⟨by rw [wanted_of (j := 26) rfl (yielded_of (by rfl) rfl tg)]; rfl, ?_⟩
            clear tg
            have t16 := hA.at_ 16 (by rfl) rfl
            refine step_value (w' := x) (v := .pointer (some ⟨T1, 36, none⟩)) ?_ (Grows.refl _) ?_
            · go_simp
            · rfl
          · intro a x hA
            have tg : a.tmps[147]?.getD undef = .bool true := hA.dep_ ⟨26, .guard⟩ (by simp) _ 147 rfl rfl
            refine .inl ⟨by rw [wanted_of (j := 26) rfl (yielded_of (by rfl) rfl tg)]; rfl, ?_⟩
            clear tg
            have t149 : a.tmps[149]?.getD undef = .pointer (some ⟨T1, 36, none⟩) := hA.dep_ ⟨28, .data⟩ (by simp) _ 149 rfl rfl
            have t148 : a.tmps[148]?.getD undef = .int .i64 (n : Int) := hA.dep_ ⟨27, .data⟩ (by simp) _ 148 rfl rfl
            refine step_value (w' := x) (v := .pointer (some ⟨T1, 36 + n, none⟩)) ?_ (Grows.refl _) ?_
            · go_simp
            · rfl
          · intro a x hA
            have tg : a.tmps[147]?.getD undef = .bool true := hA.dep_ ⟨26, .guard⟩ (by simp) _ 147 rfl rfl
            refine .inl ⟨by rw [wanted_of (j := 26) rfl (yielded_of (by rfl) rfl tg)]; rfl, ?_⟩
            clear tg
            have t150 : a.tmps[150]?.getD undef = .pointer (some ⟨T1, 36 + n, none⟩) := hA.dep_ ⟨29, .data⟩ (by simp) _ 150 rfl rfl
            have hb := HT1.out.keep hA.grown
            have g0 : x.cell? ⟨T1, 36 + n, none⟩ = some (.bool sl) := hb.cell (o := 36 + n) (by rw [← HSL.out]; exact told_sealed S1 n (by omega))
            clear hb
            refine step_value (w' := x) (v := .bool sl) ?_ (Grows.refl _) ?_
            · go_simp
            · rfl
          · intro a x hA
            have tg : a.tmps[147]?.getD undef = .bool true := hA.dep_ ⟨26, .guard⟩ (by simp) _ 147 rfl rfl
            refine .inl ⟨by rw [wanted_of (j := 26) rfl (yielded_of (by rfl) rfl tg)]; rfl, ?_⟩
            clear tg
            have t1 := hA.at_ 1 (by rfl) rfl
            refine step_value (w' := x) (v := .int .i64 (n : Int)) ?_ (Grows.refl _) ?_
            · go_simp
            · rfl
          · intro a x hA
            have tg : a.tmps[147]?.getD undef = .bool true := hA.dep_ ⟨26, .guard⟩ (by simp) _ 147 rfl rfl
            refine .inl ⟨by rw [wanted_of (j := 26) rfl (yielded_of (by rfl) rfl tg)]; rfl, ?_⟩
            clear tg
            have t18 := hA.at_ 18 (by rfl) rfl
            refine step_value (w' := x) (v := .pointer (some ⟨T2, 36, none⟩)) ?_ (Grows.refl _) ?_
            · go_simp
            · rfl
          · intro a x hA
            have tg : a.tmps[147]?.getD undef = .bool true := hA.dep_ ⟨26, .guard⟩ (by simp) _ 147 rfl rfl
            refine .inl ⟨by rw [wanted_of (j := 26) rfl (yielded_of (by rfl) rfl tg)]; rfl, ?_⟩
            clear tg
            have t153 : a.tmps[153]?.getD undef = .pointer (some ⟨T2, 36, none⟩) := hA.dep_ ⟨32, .data⟩ (by simp) _ 153 rfl rfl
            have t152 : a.tmps[152]?.getD undef = .int .i64 (n : Int) := hA.dep_ ⟨31, .data⟩ (by simp) _ 152 rfl rfl
            refine step_value (w' := x) (v := .pointer (some ⟨T2, 36 + n, none⟩)) ?_ (Grows.refl _) ?_
            · go_simp
            · rfl
          · intro a x hA
            have tg : a.tmps[147]?.getD undef = .bool true := hA.dep_ ⟨26, .guard⟩ (by simp) _ 147 rfl rfl
            refine .inl ⟨by rw [wanted_of (j := 26) rfl (yielded_of (by rfl) rfl tg)]; rfl, ?_⟩
            clear tg
            have t154 : a.tmps[154]?.getD undef = .pointer (some ⟨T2, 36 + n, none⟩) := hA.dep_ ⟨33, .data⟩ (by simp) _ 154 rfl rfl
            have hb := HT2.out.keep hA.grown
            have g0 : x.cell? ⟨T2, 36 + n, none⟩ = some (.bool sl) := hb.cell (o := 36 + n) (by rw [← HSL.out, HA.out.get]; exact told_sealed S2 n (by omega))
            clear hb
            refine step_value (w' := x) (v := .bool sl) ?_ (Grows.refl _) ?_
            · go_simp
            · rfl
          · intro a x hA
            have tg : a.tmps[147]?.getD undef = .bool true := hA.dep_ ⟨26, .guard⟩ (by simp) _ 147 rfl rfl
            refine .inl ⟨by rw [wanted_of (j := 26) rfl (yielded_of (by rfl) rfl tg)]; rfl, ?_⟩
            clear tg
            have t151 : a.tmps[151]?.getD undef = .bool sl := hA.dep_ ⟨30, .data⟩ (by simp) _ 151 rfl rfl
            have t155 : a.tmps[155]?.getD undef = .bool sl := hA.dep_ ⟨34, .data⟩ (by simp) _ 155 rfl rfl
            refine step_value (w' := x) (v := .bool true) ?_ (Grows.refl _) ?_
            · go_simp
            · rfl
          · intro a x hA
            refine .inl ⟨rfl, ?_⟩
            have t147 : a.tmps[147]?.getD undef = .bool true := hA.dep_ ⟨26, .data⟩ (by simp) _ 147 rfl rfl
            have t156 : a.tmps[156]?.getD undef = .bool true := hA.dep_ ⟨35, .data⟩ (by simp) _ 156 rfl rfl
            refine step_value (w' := x) (v := .bool true) ?_ (Grows.refl _) ?_
            · go_simp
            · rfl
          · intro a x hA
            refine .inl ⟨rfl, ?_⟩
            have t157 : a.tmps[157]?.getD undef = .bool true := hA.dep_ ⟨36, .data⟩ (by simp) _ 157 rfl rfl
            refine step_value (w' := x) (v := .bool true) ?_ (Grows.refl _) ?_
            · go_simp
            · rfl
          · intro a x hA
            have tg : a.tmps[158]?.getD undef = .bool true := hA.dep_ ⟨37, .guard⟩ (by simp) _ 158 rfl rfl
            refine .inl ⟨by rw [wanted_of (j := 37) rfl (yielded_of (by rfl) rfl tg)]; rfl, ?_⟩
            clear tg
            have t1 := hA.at_ 1 (by rfl) rfl
            refine step_value (w' := x) (v := .int .i64 (n : Int)) ?_ (Grows.refl _) ?_
            · go_simp
            · rfl
          · intro a x hA
            have tg : a.tmps[158]?.getD undef = .bool true := hA.dep_ ⟨37, .guard⟩ (by simp) _ 158 rfl rfl
            refine .inl ⟨by rw [wanted_of (j := 37) rfl (yielded_of (by rfl) rfl tg)]; rfl, ?_⟩
            clear tg
            have t16 := hA.at_ 16 (by rfl) rfl
            refine step_value (w' := x) (v := .pointer (some ⟨T1, 39, none⟩)) ?_ (Grows.refl _) ?_
            · go_simp
            · rfl
          · intro a x hA
            have tg : a.tmps[158]?.getD undef = .bool true := hA.dep_ ⟨37, .guard⟩ (by simp) _ 158 rfl rfl
            refine .inl ⟨by rw [wanted_of (j := 37) rfl (yielded_of (by rfl) rfl tg)]; rfl, ?_⟩
            clear tg
            have t160 : a.tmps[160]?.getD undef = .pointer (some ⟨T1, 39, none⟩) := hA.dep_ ⟨39, .data⟩ (by simp) _ 160 rfl rfl
            have t159 : a.tmps[159]?.getD undef = .int .i64 (n : Int) := hA.dep_ ⟨38, .data⟩ (by simp) _ 159 rfl rfl
            refine step_value (w' := x) (v := .pointer (some ⟨T1, 39 + n, none⟩)) ?_ (Grows.refl _) ?_
            · go_simp
            · rfl
          · intro a x hA
            have tg : a.tmps[158]?.getD undef = .bool true := hA.dep_ ⟨37, .guard⟩ (by simp) _ 158 rfl rfl
            refine .inl ⟨by rw [wanted_of (j := 37) rfl (yielded_of (by rfl) rfl tg)]; rfl, ?_⟩
            clear tg
            have t161 : a.tmps[161]?.getD undef = .pointer (some ⟨T1, 39 + n, none⟩) := hA.dep_ ⟨40, .data⟩ (by simp) _ 161 rfl rfl
            have hb := HT1.out.keep hA.grown
            have g0 : x.cell? ⟨T1, 39 + n, none⟩ = some (.int .i64 tr) := hb.cell (o := 39 + n) (by rw [← HTR.out]; exact told_trim S1 n (by omega))
            clear hb
            refine step_value (w' := x) (v := .int .i64 tr) ?_ (Grows.refl _) ?_
            · go_simp
            · rfl
          · intro a x hA
            have tg : a.tmps[158]?.getD undef = .bool true := hA.dep_ ⟨37, .guard⟩ (by simp) _ 158 rfl rfl
            refine .inl ⟨by rw [wanted_of (j := 37) rfl (yielded_of (by rfl) rfl tg)]; rfl, ?_⟩
            clear tg
            have t1 := hA.at_ 1 (by rfl) rfl
            refine step_value (w' := x) (v := .int .i64 (n : Int)) ?_ (Grows.refl _) ?_
            · go_simp
            · rfl
          · intro a x hA
            have tg : a.tmps[158]?.getD undef = .bool true := hA.dep_ ⟨37, .guard⟩ (by simp) _ 158 rfl rfl
            refine .inl ⟨by rw [wanted_of (j := 37) rfl (yielded_of (by rfl) rfl tg)]; rfl, ?_⟩
            clear tg
            have t18 := hA.at_ 18 (by rfl) rfl
            refine step_value (w' := x) (v := .pointer (some ⟨T2, 39, none⟩)) ?_ (Grows.refl _) ?_
            · go_simp
            · rfl
          · intro a x hA
            have tg : a.tmps[158]?.getD undef = .bool true := hA.dep_ ⟨37, .guard⟩ (by simp) _ 158 rfl rfl
            refine .inl ⟨by rw [wanted_of (j := 37) rfl (yielded_of (by rfl) rfl tg)]; rfl, ?_⟩
            clear tg
            have t164 : a.tmps[164]?.getD undef = .pointer (some ⟨T2, 39, none⟩) := hA.dep_ ⟨43, .data⟩ (by simp) _ 164 rfl rfl
            have t163 : a.tmps[163]?.getD undef = .int .i64 (n : Int) := hA.dep_ ⟨42, .data⟩ (by simp) _ 163 rfl rfl
            refine step_value (w' := x) (v := .pointer (some ⟨T2, 39 + n, none⟩)) ?_ (Grows.refl _) ?_
            · go_simp
            · rfl
          · intro a x hA
            have tg : a.tmps[158]?.getD undef = .bool true := hA.dep_ ⟨37, .guard⟩ (by simp) _ 158 rfl rfl
            refine .inl ⟨by rw [wanted_of (j := 37) rfl (yielded_of (by rfl) rfl tg)]; rfl, ?_⟩
            clear tg
            have t165 : a.tmps[165]?.getD undef = .pointer (some ⟨T2, 39 + n, none⟩) := hA.dep_ ⟨44, .data⟩ (by simp) _ 165 rfl rfl
            have hb := HT2.out.keep hA.grown
            have g0 : x.cell? ⟨T2, 39 + n, none⟩ = some (.int .i64 tr) := hb.cell (o := 39 + n) (by rw [← HTR.out, HA.out.get]; exact told_trim S2 n (by omega))
            clear hb
            refine step_value (w' := x) (v := .int .i64 tr) ?_ (Grows.refl _) ?_
            · go_simp
            · rfl
          · intro a x hA
            have tg : a.tmps[158]?.getD undef = .bool true := hA.dep_ ⟨37, .guard⟩ (by simp) _ 158 rfl rfl
            refine .inl ⟨by rw [wanted_of (j := 37) rfl (yielded_of (by rfl) rfl tg)]; rfl, ?_⟩
            clear tg
            have t162 : a.tmps[162]?.getD undef = .int .i64 tr := hA.dep_ ⟨41, .data⟩ (by simp) _ 162 rfl rfl
            have t166 : a.tmps[166]?.getD undef = .int .i64 tr := hA.dep_ ⟨45, .data⟩ (by simp) _ 166 rfl rfl
            refine step_value (w' := x) (v := .bool true) ?_ (Grows.refl _) ?_
            · go_simp
            · rfl
          · intro a x hA
            refine .inl ⟨rfl, ?_⟩
            have t158 : a.tmps[158]?.getD undef = .bool true := hA.dep_ ⟨37, .data⟩ (by simp) _ 158 rfl rfl
            have t167 : a.tmps[167]?.getD undef = .bool true := hA.dep_ ⟨46, .data⟩ (by simp) _ 167 rfl rfl
            refine step_value (w' := x) (v := .bool true) ?_ (Grows.refl _) ?_
            · go_simp
            · rfl
          · intro a x hA
            refine .inl ⟨rfl, ?_⟩
            have t168 : a.tmps[168]?.getD undef = .bool true := hA.dep_ ⟨47, .data⟩ (by simp) _ 168 rfl rfl
            refine step_value (w' := x) (v := .bool true) ?_ (Grows.refl _) ?_
            · go_simp
            · rfl
          · intro a x hA
            have tg : a.tmps[169]?.getD undef = .bool true := hA.dep_ ⟨48, .guard⟩ (by simp) _ 169 rfl rfl
            refine .inl ⟨by rw [wanted_of (j := 48) rfl (yielded_of (by rfl) rfl tg)]; rfl, ?_⟩
            clear tg
            have t9 := hA.at_ 9 (by rfl) rfl
            refine step_value (w' := x) (v := .pointer (some ⟨q1.s, 0, none⟩)) ?_ (Grows.refl _) ?_
            · go_simp
            · rfl
          · intro a x hA
            have tg : a.tmps[169]?.getD undef = .bool true := hA.dep_ ⟨48, .guard⟩ (by simp) _ 169 rfl rfl
            refine .inl ⟨by rw [wanted_of (j := 48) rfl (yielded_of (by rfl) rfl tg)]; rfl, ?_⟩
            clear tg
            have t1 := hA.at_ 1 (by rfl) rfl
            refine step_value (w' := x) (v := .int .i64 (n : Int)) ?_ (Grows.refl _) ?_
            · go_simp
            · rfl
          · intro a x hA
            have tg : a.tmps[169]?.getD undef = .bool true := hA.dep_ ⟨48, .guard⟩ (by simp) _ 169 rfl rfl
            refine .inl ⟨by rw [wanted_of (j := 48) rfl (yielded_of (by rfl) rfl tg)]; rfl, ?_⟩
            clear tg
            have t170 : a.tmps[170]?.getD undef = .pointer (some ⟨q1.s, 0, none⟩) := hA.dep_ ⟨49, .data⟩ (by simp) _ 170 rfl rfl
            have t171 : a.tmps[171]?.getD undef = .int .i64 (n : Int) := hA.dep_ ⟨50, .data⟩ (by simp) _ 171 rfl rfl
            have hst := HR.out.at1.keep hA.grown
            refine step_call (f := 21) (args := #[.pointer (some ⟨q1.s, 0, none⟩), .int .i64 (n : Int)]) (by clear hst; go_simp) ?_
            have hT := store_Tail hst (n : Int)
            rw [HQ1.out, HTL.out] at hT
            refine hT.mono ?_
            rintro e w' ⟨rfl, hb9⟩
            exact ⟨_, rfl, hb9, rfl⟩
          · intro a x hA
            have tg : a.tmps[169]?.getD undef = .bool true := hA.dep_ ⟨48, .guard⟩ (by simp) _ 169 rfl rfl
            refine .inl ⟨by rw [wanted_of (j := 48) rfl (yielded_of (by rfl) rfl tg)]; rfl, ?_⟩
            clear tg
            have t11 := hA.at_ 11 (by rfl) rfl
            refine step_value (w' := x) (v := .pointer (some ⟨q2.s, 0, none⟩)) ?_ (Grows.refl _) ?_
            · go_simp
            · rfl
          · intro a x hA
            have tg : a.tmps[169]?.getD undef = .bool true := hA.dep_ ⟨48, .guard⟩ (by simp) _ 169 rfl rfl
            refine .inl ⟨by rw [wanted_of (j := 48) rfl (yielded_of (by rfl) rfl tg)]; rfl, ?_⟩
            clear tg
            have t1 := hA.at_ 1 (by rfl) rfl
            refine step_value (w' := x) (v := .int .i64 (n : Int)) ?_ (Grows.refl _) ?_
            · go_simp
            · rfl
          · intro a x hA
            have tg : a.tmps[169]?.getD undef = .bool true := hA.dep_ ⟨48, .guard⟩ (by simp) _ 169 rfl rfl
            refine .inl ⟨by rw [wanted_of (j := 48) rfl (yielded_of (by rfl) rfl tg)]; rfl, ?_⟩
            clear tg
            have t173 : a.tmps[173]?.getD undef = .pointer (some ⟨q2.s, 0, none⟩) := hA.dep_ ⟨52, .data⟩ (by simp) _ 173 rfl rfl
            have t174 : a.tmps[174]?.getD undef = .int .i64 (n : Int) := hA.dep_ ⟨53, .data⟩ (by simp) _ 174 rfl rfl
            have hst := HR.out.at2.keep hA.grown
            refine step_call (f := 21) (args := #[.pointer (some ⟨q2.s, 0, none⟩), .int .i64 (n : Int)]) (by clear hst; go_simp) ?_
            have hT := store_Tail hst (n : Int)
            rw [HQ2.out, ← HA.out.get, HTL.out] at hT
            refine hT.mono ?_
            rintro e w' ⟨rfl, hb9⟩
            exact ⟨_, rfl, hb9, rfl⟩
          · intro a x hA
            have tg : a.tmps[169]?.getD undef = .bool true := hA.dep_ ⟨48, .guard⟩ (by simp) _ 169 rfl rfl
            refine .inl ⟨by rw [wanted_of (j := 48) rfl (yielded_of (by rfl) rfl tg)]; rfl, ?_⟩
            clear tg
            have t172 : a.tmps[172]?.getD undef = .int .i64 tl := hA.dep_ ⟨51, .data⟩ (by simp) _ 172 rfl rfl
            have t175 : a.tmps[175]?.getD undef = .int .i64 tl := hA.dep_ ⟨54, .data⟩ (by simp) _ 175 rfl rfl
            refine step_value (w' := x) (v := .bool true) ?_ (Grows.refl _) ?_
            · go_simp
            · rfl
          · intro a x hA
            refine .inl ⟨rfl, ?_⟩
            have t169 : a.tmps[169]?.getD undef = .bool true := hA.dep_ ⟨48, .data⟩ (by simp) _ 169 rfl rfl
            have t176 : a.tmps[176]?.getD undef = .bool true := hA.dep_ ⟨55, .data⟩ (by simp) _ 176 rfl rfl
            refine step_value (w' := x) (v := .bool true) ?_ (Grows.refl _) ?_
            · go_simp
            · rfl
          · intro a x hA
            refine .inl ⟨rfl, ?_⟩
            have t177 : a.tmps[177]?.getD undef = .bool true := hA.dep_ ⟨56, .data⟩ (by simp) _ 177 rfl rfl
            refine step_value (w' := x) (v := .bool true) ?_ (Grows.refl _) ?_
            · go_simp
            · rfl
        case rfin =>
          intro y W' hg hV
          simp only [AllVals] at hV
          obtain ⟨_, _, _, _, _, _, _, _, _, _, _, _, _, _, _, _, _, _, _, _, _, _, _, _, _, _, _, _, _, _, _, _, _, _, _, _, _, _, _, _, _, _, _, _, _, _, _, _, _, _, _, _, _, _, _, _, _, h57, _⟩ := hV
          have hbW := HBW.out.trans (Below.mono (Below.trans (below_of_drewN _ _ 1) hg) HBW.out.size)
          clear hg
          simp only [putAll, Act.put, List.setIfInBounds_toArray, List.set_cons_zero, List.set_cons_succ]
          rw [h57]
          clear h57
          go_wp2_with fail
          go_ret
          exact ⟨rfl, hbW⟩
      · have hd1 : decide ((k : Int) < (l.length : Int)) = false := decide_eq_false (by omega)
        go_wp2_with fail
        clear h1
        have hL := law_look r.at1
        rw [hq1] at hL
        refine hL.mono ?_
        rintro e W9 ⟨rfl, b9⟩
        clear hL
        have r9 := r.keep b9
        have bW9 := bW.trans (b9.mono bW.size)
        clear r b9 bW
        have hZ := Blk.new W9 (#[.string ⟨#[]⟩, .string ⟨#[]⟩, .string ⟨#[]⟩, .string ⟨#[]⟩, .string ⟨#[]⟩, .string ⟨#[]⟩, .string ⟨#[]⟩, .string ⟨#[]⟩, .string ⟨#[]⟩, .string ⟨#[]⟩, .string ⟨#[]⟩, .string ⟨#[]⟩, .string ⟨#[]⟩, .string ⟨#[]⟩, .string ⟨#[]⟩, .string ⟨#[]⟩, .string ⟨#[]⟩, .string ⟨#[]⟩, .bool false, .bool false, .bool false, .bool false, .bool false, .bool false, .bool false, .bool false, .bool false, .bool false, .bool false, .bool false, .bool false, .bool false, .bool false, .bool false, .bool false, .bool false, .bool false, .bool false, .bool false, .int .i64 0, .int .i64 0, .int .i64 0]) 44
        have bz := (Below.refl W9.heap.size W9).alloc (Nat.le_refl _) (.cells (#[.string ⟨#[]⟩, .string ⟨#[]⟩, .string ⟨#[]⟩, .string ⟨#[]⟩, .string ⟨#[]⟩, .string ⟨#[]⟩, .string ⟨#[]⟩, .string ⟨#[]⟩, .string ⟨#[]⟩, .string ⟨#[]⟩, .string ⟨#[]⟩, .string ⟨#[]⟩, .string ⟨#[]⟩, .string ⟨#[]⟩, .string ⟨#[]⟩, .string ⟨#[]⟩, .string ⟨#[]⟩, .string ⟨#[]⟩, .bool false, .bool false, .bool false, .bool false, .bool false, .bool false, .bool false, .bool false, .bool false, .bool false, .bool false, .bool false, .bool false, .bool false, .bool false, .bool false, .bool false, .bool false, .bool false, .bool false, .bool false, .int .i64 0, .int .i64 0, .int .i64 0]) 44)
        have r9z := r9.keep bz
        have bW9z := bW9.trans (bz.mono bW9.size)
        have hq9 : ∀ b, b = W9.heap.size → ¬ (QQ1.all b ∨ QQ2.all b) := fun b e h => by
          rcases h with h | h
          · have := r9.at1.size h; omega
          · have := r9.at2.size h; omega
        have H9 := hid (And.intro r9z (And.intro bW9z hq9))
        have HB9 := hid bW9.size
        have HZ := hid hZ
        clear r9 bW9 bz r9z bW9z hq9
        go_wp2_with (refine wpList_store_row rfl 44 _ _ rfl W9.heap.size (told S1) rfl rfl 44 _ hZ (by rw [told_size]; exact size_told) (by rw [told_size]; rfl) (told_all S1) ?_)
        clear hZ
        obtain ⟨W10, hW10⟩ : ∃ W10, (W9.alloc (.cells (#[.string ⟨#[]⟩, .string ⟨#[]⟩, .string ⟨#[]⟩, .string ⟨#[]⟩, .string ⟨#[]⟩, .string ⟨#[]⟩, .string ⟨#[]⟩, .string ⟨#[]⟩, .string ⟨#[]⟩, .string ⟨#[]⟩, .string ⟨#[]⟩, .string ⟨#[]⟩, .string ⟨#[]⟩, .string ⟨#[]⟩, .string ⟨#[]⟩, .string ⟨#[]⟩, .string ⟨#[]⟩, .string ⟨#[]⟩, .bool false, .bool false, .bool false, .bool false, .bool false, .bool false, .bool false, .bool false, .bool false, .bool false, .bool false, .bool false, .bool false, .bool false, .bool false, .bool false, .bool false, .bool false, .bool false, .bool false, .bool false, .int .i64 0, .int .i64 0, .int .i64 0]) 44)).setRow W9.heap.size (told S1) = W10 := ⟨_, rfl⟩
        have kT := HZ.out.setRow (told S1)
        have x10 : Ext (fun b => b = W9.heap.size) (W9.alloc (.cells (#[.string ⟨#[]⟩, .string ⟨#[]⟩, .string ⟨#[]⟩, .string ⟨#[]⟩, .string ⟨#[]⟩, .string ⟨#[]⟩, .string ⟨#[]⟩, .string ⟨#[]⟩, .string ⟨#[]⟩, .string ⟨#[]⟩, .string ⟨#[]⟩, .string ⟨#[]⟩, .string ⟨#[]⟩, .string ⟨#[]⟩, .string ⟨#[]⟩, .string ⟨#[]⟩, .string ⟨#[]⟩, .string ⟨#[]⟩, .bool false, .bool false, .bool false, .bool false, .bool false, .bool false, .bool false, .bool false, .bool false, .bool false, .bool false, .bool false, .bool false, .bool false, .bool false, .bool false, .bool false, .bool false, .bool false, .bool false, .bool false, .int .i64 0, .int .i64 0, .int .i64 0]) 44)) W10 := by rw [← hW10]; exact (Ext.refl (fun b => b = W9.heap.size) _).grown (setRow_grown _ _ _) (fun k h => by cases h; exact .inl rfl)
        rw [hW10] at kT ⊢
        have r := H9.out.1.ext x10 H9.out.2.2
        have bW := H9.out.2.1.trans (x10.belowOf H9.out.2.1.size (fun b hb e => by have := HB9.out; omega))
        clear x10 hW10 H9 HB9 HZ
        generalize W9.heap.size = T1 at kT ⊢
        have HKT1 := hid kT
        clear kT
        have hL := law_look r.at2
        rw [hq2] at hL
        refine hL.mono ?_
        rintro e W11 ⟨rfl, b9⟩
        clear hL
        have r9 := r.keep b9
        have bW9 := bW.trans (b9.mono bW.size)
        have kq9 := HKT1.out.keep b9
        have kl9 := HKT1.out.lt
        have kl10 := b9.size
        clear r b9 bW
        have hZ := Blk.new W11 (#[.string ⟨#[]⟩, .string ⟨#[]⟩, .string ⟨#[]⟩, .string ⟨#[]⟩, .string ⟨#[]⟩, .string ⟨#[]⟩, .string ⟨#[]⟩, .string ⟨#[]⟩, .string ⟨#[]⟩, .string ⟨#[]⟩, .string ⟨#[]⟩, .string ⟨#[]⟩, .string ⟨#[]⟩, .string ⟨#[]⟩, .string ⟨#[]⟩, .string ⟨#[]⟩, .string ⟨#[]⟩, .string ⟨#[]⟩, .bool false, .bool false, .bool false, .bool false, .bool false, .bool false, .bool false, .bool false, .bool false, .bool false, .bool false, .bool false, .bool false, .bool false, .bool false, .bool false, .bool false, .bool false, .bool false, .bool false, .bool false, .int .i64 0, .int .i64 0, .int .i64 0]) 44
        have bz := (Below.refl W11.heap.size W11).alloc (Nat.le_refl _) (.cells (#[.string ⟨#[]⟩, .string ⟨#[]⟩, .string ⟨#[]⟩, .string ⟨#[]⟩, .string ⟨#[]⟩, .string ⟨#[]⟩, .string ⟨#[]⟩, .string ⟨#[]⟩, .string ⟨#[]⟩, .string ⟨#[]⟩, .string ⟨#[]⟩, .string ⟨#[]⟩, .string ⟨#[]⟩, .string ⟨#[]⟩, .string ⟨#[]⟩, .string ⟨#[]⟩, .string ⟨#[]⟩, .string ⟨#[]⟩, .bool false, .bool false, .bool false, .bool false, .bool false, .bool false, .bool false, .bool false, .bool false, .bool false, .bool false, .bool false, .bool false, .bool false, .bool false, .bool false, .bool false, .bool false, .bool false, .bool false, .bool false, .int .i64 0, .int .i64 0, .int .i64 0]) 44)
        have r9z := r9.keep bz
        have bW9z := bW9.trans (bz.mono bW9.size)
        have kqz := hid (kq9.keep bz)
        have kl := hid (show T1 ≠ W11.heap.size by omega)
        clear kq9 kl9 kl10 HKT1
        have hq9 : ∀ b, b = W11.heap.size → ¬ (QQ1.all b ∨ QQ2.all b) := fun b e h => by
          rcases h with h | h
          · have := r9.at1.size h; omega
          · have := r9.at2.size h; omega
        have H9 := hid (And.intro r9z (And.intro bW9z hq9))
        have HB9 := hid bW9.size
        have HZ := hid hZ
        clear r9 bW9 bz r9z bW9z hq9
        go_wp2_with (refine wpList_store_row rfl 44 _ _ rfl W11.heap.size (told S2) rfl rfl 44 _ hZ (by rw [told_size]; exact size_told) (by rw [told_size]; rfl) (told_all S2) ?_)
        clear hZ
        obtain ⟨W12, hW12⟩ : ∃ W12, (W11.alloc (.cells (#[.string ⟨#[]⟩, .string ⟨#[]⟩, .string ⟨#[]⟩, .string ⟨#[]⟩, .string ⟨#[]⟩, .string ⟨#[]⟩, .string ⟨#[]⟩, .string ⟨#[]⟩, .string ⟨#[]⟩, .string ⟨#[]⟩, .string ⟨#[]⟩, .string ⟨#[]⟩, .string ⟨#[]⟩, .string ⟨#[]⟩, .string ⟨#[]⟩, .string ⟨#[]⟩, .string ⟨#[]⟩, .string ⟨#[]⟩, .bool false, .bool false, .bool false, .bool false, .bool false, .bool false, .bool false, .bool false, .bool false, .bool false, .bool false, .bool false, .bool false, .bool false, .bool false, .bool false, .bool false, .bool false, .bool false, .bool false, .bool false, .int .i64 0, .int .i64 0, .int .i64 0]) 44)).setRow W11.heap.size (told S2) = W12 := ⟨_, rfl⟩
        have kT := HZ.out.setRow (told S2)
        have x10 : Ext (fun b => b = W11.heap.size) (W11.alloc (.cells (#[.string ⟨#[]⟩, .string ⟨#[]⟩, .string ⟨#[]⟩, .string ⟨#[]⟩, .string ⟨#[]⟩, .string ⟨#[]⟩, .string ⟨#[]⟩, .string ⟨#[]⟩, .string ⟨#[]⟩, .string ⟨#[]⟩, .string ⟨#[]⟩, .string ⟨#[]⟩, .string ⟨#[]⟩, .string ⟨#[]⟩, .string ⟨#[]⟩, .string ⟨#[]⟩, .string ⟨#[]⟩, .string ⟨#[]⟩, .bool false, .bool false, .bool false, .bool false, .bool false, .bool false, .bool false, .bool false, .bool false, .bool false, .bool false, .bool false, .bool false, .bool false, .bool false, .bool false, .bool false, .bool false, .bool false, .bool false, .bool false, .int .i64 0, .int .i64 0, .int .i64 0]) 44)) W12 := by rw [← hW12]; exact (Ext.refl (fun b => b = W11.heap.size) _).grown (setRow_grown _ _ _) (fun k h => by cases h; exact .inl rfl)
        rw [hW12] at kT ⊢
        have r := H9.out.1.ext x10 H9.out.2.2
        have bW := H9.out.2.1.trans (x10.belowOf H9.out.2.1.size (fun b hb e => by have := HB9.out; omega))
        have HKT1 := hid (kqz.out.ext x10 (fun e => kl.out e))
        clear kqz kl
        clear x10 hW12 H9 HB9 HZ
        generalize W11.heap.size = T2 at kT ⊢
        have HKT2 := hid kT
        clear kT
        have HT1 := hid HKT1.out
        have HT2 := hid HKT2.out
        have HR := hid r
        have HBW := hid bW
        have HQ1 := hid hq1
        have HQ2 := hid hq2
        have HA := hid hA
        obtain ⟨sl, hsl⟩ : ∃ sl, (S1.get (n : Int)).2.2 = sl := ⟨_, rfl⟩
        obtain ⟨tr, htr⟩ : ∃ tr, (S1.get (n : Int)).2.1 = tr := ⟨_, rfl⟩
        obtain ⟨tl, htl⟩ : ∃ tl, max (S1.get (n : Int)).1 (S1.get (n : Int)).2.1 = tl := ⟨_, rfl⟩
        have HSL := hid hsl
        have HTR := hid htr
        have HTL := hid htl
        have hn3 : n < 3 := by omega
        clear HKT1 HKT2 r bW hq1 hq2 hA hsl htr htl hv hi
        refine wp_region_invG rfl Grows (fun i v x => match i with
            | 0 => v = .bool true
            | 1 => v = .bool true
            | 2 => v = .bool true
            | 3 => v = .bool true
            | 4 => v = .bool true
            | 5 => v = .int .i64 (n : Int)
            | 6 => v = .pointer (some ⟨T1, 0, none⟩)
            | 7 => v = .pointer (some ⟨T1, n * 6, none⟩)
            | 8 => v = .agg #[tData S1 (n * 6), tData S1 (n * 6 + 1), tData S1 (n * 6 + 2), tData S1 (n * 6 + 3), tData S1 (n * 6 + 4), tData S1 (n * 6 + 5)]
            | 9 => v = .int .i64 (n : Int)
            | 10 => v = .pointer (some ⟨T2, 0, none⟩)
            | 11 => v = .pointer (some ⟨T2, n * 6, none⟩)
            | 12 => v = .agg #[tData S1 (n * 6), tData S1 (n * 6 + 1), tData S1 (n * 6 + 2), tData S1 (n * 6 + 3), tData S1 (n * 6 + 4), tData S1 (n * 6 + 5)]
            | 13 => v = .bool true
            | 14 => v = .bool true
            | 15 => v = .bool true
            | 16 => v = .int .i64 (n : Int)
            | 17 => v = .pointer (some ⟨T1, 18, none⟩)
            | 18 => v = .pointer (some ⟨T1, 18 + n * 6, none⟩)
            | 19 => v = .agg #[tThere S1 (n * 6), tThere S1 (n * 6 + 1), tThere S1 (n * 6 + 2), tThere S1 (n * 6 + 3), tThere S1 (n * 6 + 4), tThere S1 (n * 6 + 5)]
            | 20 => v = .int .i64 (n : Int)
            | 21 => v = .pointer (some ⟨T2, 18, none⟩)
            | 22 => v = .pointer (some ⟨T2, 18 + n * 6, none⟩)
            | 23 => v = .agg #[tThere S1 (n * 6), tThere S1 (n * 6 + 1), tThere S1 (n * 6 + 2), tThere S1 (n * 6 + 3), tThere S1 (n * 6 + 4), tThere S1 (n * 6 + 5)]
            | 24 => v = .bool true
            | 25 => v = .bool true
            | 26 => v = .bool true
            | 27 => v = .int .i64 (n : Int)
            | 28 => v = .pointer (some ⟨T1, 36, none⟩)
            | 29 => v = .pointer (some ⟨T1, 36 + n, none⟩)
            | 30 => v = .bool sl
            | 31 => v = .int .i64 (n : Int)
            | 32 => v = .pointer (some ⟨T2, 36, none⟩)
            | 33 => v = .pointer (some ⟨T2, 36 + n, none⟩)
            | 34 => v = .bool sl
            | 35 => v = .bool true
            | 36 => v = .bool true
            | 37 => v = .bool true
            | 38 => v = .int .i64 (n : Int)
            | 39 => v = .pointer (some ⟨T1, 39, none⟩)
            | 40 => v = .pointer (some ⟨T1, 39 + n, none⟩)
            | 41 => v = .int .i64 tr
            | 42 => v = .int .i64 (n : Int)
            | 43 => v = .pointer (some ⟨T2, 39, none⟩)
            | 44 => v = .pointer (some ⟨T2, 39 + n, none⟩)
            | 45 => v = .int .i64 tr
            | 46 => v = .bool true
            | 47 => v = .bool true
            | 48 => v = .bool true
            | 49 => v = .pointer (some ⟨q1.s, 0, none⟩)
            | 50 => v = .int .i64 (n : Int)
            | 51 => v = .int .i64 tl
            | 52 => v = .pointer (some ⟨q2.s, 0, none⟩)
            | 53 => v = .int .i64 (n : Int)
            | 54 => v = .int .i64 tl
            | 55 => v = .bool true
            | 56 => v = .bool true
            | 57 => v = .bool true
            | _ => True) (by kernel_rfl) Grows.refl Grows.trans ?rstab ?rsteps ?rfin
        case rstab =>
          intro i v x y hg h
          match i with
          | 0 | 1 | 2 | 3 | 4 | 5 | 6 | 7 | 8 | 9 | 10 | 11 | 12 | 13 | 14 | 15 | 16 | 17 | 18 | 19 | 20 | 21 | 22 | 23 | 24 | 25 | 26 | 27 | 28 | 29 | 30 | 31 | 32 | 33 | 34 | 35 | 36 | 37 | 38 | 39 | 40 | 41 | 42 | 43 | 44 | 45 | 46 | 47 | 48 | 49 | 50 | 51 | 52 | 53 | 54 | 55 | 56 | 57 => exact h
          | n + 58 => trivial
        case rsteps =>
          refine ⟨?_, ?_, ?_, ?_, ?_, ?_, ?_, ?_, ?_, ?_, ?_, ?_, ?_, ?_, ?_, ?_, ?_, ?_, ?_, ?_, ?_, ?_, ?_, ?_, ?_, ?_, ?_, ?_, ?_, ?_, ?_, ?_, ?_, ?_, ?_, ?_, ?_, ?_, ?_, ?_, ?_, ?_, ?_, ?_, ?_, ?_, ?_, ?_, ?_, ?_, ?_, ?_, ?_, ?_, ?_, ?_, ?_, ?_, trivial⟩
          · intro a x hA
            refine .inl ⟨rfl, ?_⟩
            have t17 := hA.at_ 17 (by rfl) rfl
            refine step_value (w' := x) (v := .bool true) ?_ (Grows.refl _) ?_
            · go_simp
            · rfl
          · intro a x hA
            refine .inl ⟨rfl, ?_⟩
            have t121 : a.tmps[121]?.getD undef = .bool true := hA.dep_ ⟨0, .data⟩ (by simp) _ 121 rfl rfl
            refine step_value (w' := x) (v := .bool true) ?_ (Grows.refl _) ?_
            · go_simp
            · rfl
          · intro a x hA
            have tg : a.tmps[122]?.getD undef = .bool true := hA.dep_ ⟨1, .guard⟩ (by simp) _ 122 rfl rfl
            refine .inl ⟨by rw [wanted_of (j := 1) rfl (yielded_of (by rfl) rfl tg)]; rfl, ?_⟩
            clear tg
            have t19 := hA.at_ 19 (by rfl) rfl
            refine step_value (w' := x) (v := .bool true) ?_ (Grows.refl _) ?_
            · go_simp
            · rfl
          · intro a x hA
            refine .inl ⟨rfl, ?_⟩
            have t122 : a.tmps[122]?.getD undef = .bool true := hA.dep_ ⟨1, .data⟩ (by simp) _ 122 rfl rfl
            have t123 : a.tmps[123]?.getD undef = .bool true := hA.dep_ ⟨2, .data⟩ (by simp) _ 123 rfl rfl
            refine step_value (w' := x) (v := .bool true) ?_ (Grows.refl _) ?_
            · go_simp
            · rfl
          · intro a x hA
            refine .inl ⟨rfl, ?_⟩
            have t124 : a.tmps[124]?.getD undef = .bool true := hA.dep_ ⟨3, .data⟩ (by simp) _ 124 rfl rfl
            refine step_value (w' := x) (v := .bool true) ?_ (Grows.refl _) ?_
            · go_simp
            · rfl
          · intro a x hA
            have tg : a.tmps[125]?.getD undef = .bool true := hA.dep_ ⟨4, .guard⟩ (by simp) _ 125 rfl rfl
            refine .inl ⟨by rw [wanted_of (j := 4) rfl (yielded_of (by rfl) rfl tg)]; rfl, ?_⟩
            clear tg
            have t1 := hA.at_ 1 (by rfl) rfl
            refine step_value (w' := x) (v := .int .i64 (n : Int)) ?_ (Grows.refl _) ?_
            · go_simp
            · rfl
          · intro a x hA
            have tg : a.tmps[125]?.getD undef = .bool true := hA.dep_ ⟨4, .guard⟩ (by simp) _ 125 rfl rfl
            refine .inl ⟨by rw [wanted_of (j := 4) rfl (yielded_of (by rfl) rfl tg)]; rfl, ?_⟩
            clear tg
            have t16 := hA.at_ 16 (by rfl) rfl
            refine step_value (w' := x) (v := .pointer (some ⟨T1, 0, none⟩)) ?_ (Grows.refl _) ?_
            · go_simp
            · rfl
          · intro a x hA
            have tg : a.tmps[125]?.getD undef = .bool true := hA.dep_ ⟨4, .guard⟩ (by simp) _ 125 rfl rfl
            refine .inl ⟨by rw [wanted_of (j := 4) rfl (yielded_of (by rfl) rfl tg)]; rfl, ?_⟩
            clear tg
            have t127 : a.tmps[127]?.getD undef = .pointer (some ⟨T1, 0, none⟩) := hA.dep_ ⟨6, .data⟩ (by simp) _ 127 rfl rfl
            have t126 : a.tmps[126]?.getD undef = .int .i64 (n : Int) := hA.dep_ ⟨5, .data⟩ (by simp) _ 126 rfl rfl
            refine step_value (w' := x) (v := .pointer (some ⟨T1, n * 6, none⟩)) ?_ (Grows.refl _) ?_
            · go_simp
            · rfl
          · intro a x hA
            have tg : a.tmps[125]?.getD undef = .bool true := hA.dep_ ⟨4, .guard⟩ (by simp) _ 125 rfl rfl
            refine .inl ⟨by rw [wanted_of (j := 4) rfl (yielded_of (by rfl) rfl tg)]; rfl, ?_⟩
            clear tg
            have t128 : a.tmps[128]?.getD undef = .pointer (some ⟨T1, n * 6, none⟩) := hA.dep_ ⟨7, .data⟩ (by simp) _ 128 rfl rfl
            have hb := HT1.out.keep hA.grown
            have g0 : x.cell? ⟨T1, n * 6, none⟩ = some (tData S1 (n * 6)) := hb.cell (o := n * 6) (told_data S1 (n * 6) (by omega))
            have g1 : x.cell? ⟨T1, n * 6 + 1, none⟩ = some (tData S1 (n * 6 + 1)) := hb.cell (o := n * 6 + 1) (told_data S1 (n * 6 + 1) (by omega))
            have g2 : x.cell? ⟨T1, n * 6 + 2, none⟩ = some (tData S1 (n * 6 + 2)) := hb.cell (o := n * 6 + 2) (told_data S1 (n * 6 + 2) (by omega))
            have g3 : x.cell? ⟨T1, n * 6 + 3, none⟩ = some (tData S1 (n * 6 + 3)) := hb.cell (o := n * 6 + 3) (told_data S1 (n * 6 + 3) (by omega))
            have g4 : x.cell? ⟨T1, n * 6 + 4, none⟩ = some (tData S1 (n * 6 + 4)) := hb.cell (o := n * 6 + 4) (told_data S1 (n * 6 + 4) (by omega))
            have g5 : x.cell? ⟨T1, n * 6 + 5, none⟩ = some (tData S1 (n * 6 + 5)) := hb.cell (o := n * 6 + 5) (told_data S1 (n * 6 + 5) (by omega))
            clear hb
            refine step_value (w' := x) (v := .agg #[tData S1 (n * 6), tData S1 (n * 6 + 1), tData S1 (n * 6 + 2), tData S1 (n * 6 + 3), tData S1 (n * 6 + 4), tData S1 (n * 6 + 5)]) ?_ (Grows.refl _) ?_
            · go_simp
            · rfl
          · intro a x hA
            have tg : a.tmps[125]?.getD undef = .bool true := hA.dep_ ⟨4, .guard⟩ (by simp) _ 125 rfl rfl
            refine .inl ⟨by rw [wanted_of (j := 4) rfl (yielded_of (by rfl) rfl tg)]; rfl, ?_⟩
            clear tg
            have t1 := hA.at_ 1 (by rfl) rfl
            refine step_value (w' := x) (v := .int .i64 (n : Int)) ?_ (Grows.refl _) ?_
            · go_simp
            · rfl
          · intro a x hA
            have tg : a.tmps[125]?.getD undef = .bool true := hA.dep_ ⟨4, .guard⟩ (by simp) _ 125 rfl rfl
            refine .inl ⟨by rw [wanted_of (j := 4) rfl (yielded_of (by rfl) rfl tg)]; rfl, ?_⟩
            clear tg
            have t18 := hA.at_ 18 (by rfl) rfl
            refine step_value (w' := x) (v := .pointer (some ⟨T2, 0, none⟩)) ?_ (Grows.refl _) ?_
            · go_simp
            · rfl
          · intro a x hA
            have tg : a.tmps[125]?.getD undef = .bool true := hA.dep_ ⟨4, .guard⟩ (by simp) _ 125 rfl rfl
            refine .inl ⟨by rw [wanted_of (j := 4) rfl (yielded_of (by rfl) rfl tg)]; rfl, ?_⟩
            clear tg
            have t131 : a.tmps[131]?.getD undef = .pointer (some ⟨T2, 0, none⟩) := hA.dep_ ⟨10, .data⟩ (by simp) _ 131 rfl rfl
            have t130 : a.tmps[130]?.getD undef = .int .i64 (n : Int) := hA.dep_ ⟨9, .data⟩ (by simp) _ 130 rfl rfl
            refine step_value (w' := x) (v := .pointer (some ⟨T2, n * 6, none⟩)) ?_ (Grows.refl _) ?_
            · go_simp
            · rfl
          · intro a x hA
            have tg : a.tmps[125]?.getD undef = .bool true := hA.dep_ ⟨4, .guard⟩ (by simp) _ 125 rfl rfl
            refine .inl ⟨by rw [wanted_of (j := 4) rfl (yielded_of (by rfl) rfl tg)]; rfl, ?_⟩
            clear tg
            have t132 : a.tmps[132]?.getD undef = .pointer (some ⟨T2, n * 6, none⟩) := hA.dep_ ⟨11, .data⟩ (by simp) _ 132 rfl rfl
            have hb := HT2.out.keep hA.grown
            have g0 : x.cell? ⟨T2, n * 6, none⟩ = some (tData S1 (n * 6)) := hb.cell (o := n * 6) (by rw [← apart_tData HA.out (n * 6) (by omega)]; exact told_data S2 (n * 6) (by omega))
            have g1 : x.cell? ⟨T2, n * 6 + 1, none⟩ = some (tData S1 (n * 6 + 1)) := hb.cell (o := n * 6 + 1) (by rw [← apart_tData HA.out (n * 6 + 1) (by omega)]; exact told_data S2 (n * 6 + 1) (by omega))
            have g2 : x.cell? ⟨T2, n * 6 + 2, none⟩ = some (tData S1 (n * 6 + 2)) := hb.cell (o := n * 6 + 2) (by rw [← apart_tData HA.out (n * 6 + 2) (by omega)]; exact told_data S2 (n * 6 + 2) (by omega))
            have g3 : x.cell? ⟨T2, n * 6 + 3, none⟩ = some (tData S1 (n * 6 + 3)) := hb.cell (o := n * 6 + 3) (by rw [← apart_tData HA.out (n * 6 + 3) (by omega)]; exact told_data S2 (n * 6 + 3) (by omega))
            have g4 : x.cell? ⟨T2, n * 6 + 4, none⟩ = some (tData S1 (n * 6 + 4)) := hb.cell (o := n * 6 + 4) (by rw [← apart_tData HA.out (n * 6 + 4) (by omega)]; exact told_data S2 (n * 6 + 4) (by omega))
            have g5 : x.cell? ⟨T2, n * 6 + 5, none⟩ = some (tData S1 (n * 6 + 5)) := hb.cell (o := n * 6 + 5) (by rw [← apart_tData HA.out (n * 6 + 5) (by omega)]; exact told_data S2 (n * 6 + 5) (by omega))
            clear hb
            refine step_value (w' := x) (v := .agg #[tData S1 (n * 6), tData S1 (n * 6 + 1), tData S1 (n * 6 + 2), tData S1 (n * 6 + 3), tData S1 (n * 6 + 4), tData S1 (n * 6 + 5)]) ?_ (Grows.refl _) ?_
            · go_simp
            · rfl
          · intro a x hA
            have tg : a.tmps[125]?.getD undef = .bool true := hA.dep_ ⟨4, .guard⟩ (by simp) _ 125 rfl rfl
            refine .inl ⟨by rw [wanted_of (j := 4) rfl (yielded_of (by rfl) rfl tg)]; rfl, ?_⟩
            clear tg
            have t129 : a.tmps[129]?.getD undef = .agg #[tData S1 (n * 6), tData S1 (n * 6 + 1), tData S1 (n * 6 + 2), tData S1 (n * 6 + 3), tData S1 (n * 6 + 4), tData S1 (n * 6 + 5)] := hA.dep_ ⟨8, .data⟩ (by simp) _ 129 rfl rfl
            have t133 : a.tmps[133]?.getD undef = .agg #[tData S1 (n * 6), tData S1 (n * 6 + 1), tData S1 (n * 6 + 2), tData S1 (n * 6 + 3), tData S1 (n * 6 + 4), tData S1 (n * 6 + 5)] := hA.dep_ ⟨12, .data⟩ (by simp) _ 133 rfl rfl
            exact step_value (w' := x) (v := .bool true) (run_eql_same (cs := #[tData S1 (n * 6), tData S1 (n * 6 + 1), tData S1 (n * 6 + 2), tData S1 (n * 6 + 3), tData S1 (n * 6 + 4), tData S1 (n * 6 + 5)]) rfl (eval_of t129) (eval_of t133) guard_6string (same_6string (d := 9998) (str6 S1 _ _ _ _ _ _)) x) (Grows.refl _) rfl
          · intro a x hA
            refine .inl ⟨rfl, ?_⟩
            have t125 : a.tmps[125]?.getD undef = .bool true := hA.dep_ ⟨4, .data⟩ (by simp) _ 125 rfl rfl
            have t134 : a.tmps[134]?.getD undef = .bool true := hA.dep_ ⟨13, .data⟩ (by simp) _ 134 rfl rfl
            refine step_value (w' := x) (v := .bool true) ?_ (Grows.refl _) ?_
            · go_simp
            · rfl
          · intro a x hA
            refine .inl ⟨rfl, ?_⟩
            have t135 : a.tmps[135]?.getD undef = .bool true := hA.dep_ ⟨14, .data⟩ (by simp) _ 135 rfl rfl
            refine step_value (w' := x) (v := .bool true) ?_ (Grows.refl _) ?_
            · go_simp
            · rfl
          · intro a x hA
            have tg : a.tmps[136]?.getD undef = .bool true := hA.dep_ ⟨15, .guard⟩ (by simp) _ 136 rfl rfl
            refine .inl ⟨by rw [wanted_of (j := 15) rfl (yielded_of (by rfl) rfl tg)]; rfl, ?_⟩
            clear tg
            have t1 := hA.at_ 1 (by rfl) rfl
            refine step_value (w' := x) (v := .int .i64 (n : Int)) ?_ (Grows.refl _) ?_
            · go_simp
            · rfl
          · intro a x hA
            have tg : a.tmps[136]?.getD undef = .bool true := hA.dep_ ⟨15, .guard⟩ (by simp) _ 136 rfl rfl
            refine .inl ⟨by rw [wanted_of (j := 15) rfl (yielded_of (by rfl) rfl tg)]; rfl, ?_⟩
            clear tg
            have t16 := hA.at_ 16 (by rfl) rfl
            refine step_value (w' := x) (v := .pointer (some ⟨T1, 18, none⟩)) ?_ (Grows.refl _) ?_
            · go_simp
            · rfl
          · intro a x hA
            have tg : a.tmps[136]?.getD undef = .bool true := hA.dep_ ⟨15, .guard⟩ (by simp) _ 136 rfl rfl
            refine .inl ⟨by rw [wanted_of (j := 15) rfl (yielded_of (by rfl) rfl tg)]; rfl, ?_⟩
            clear tg
            have t138 : a.tmps[138]?.getD undef = .pointer (some ⟨T1, 18, none⟩) := hA.dep_ ⟨17, .data⟩ (by simp) _ 138 rfl rfl
            have t137 : a.tmps[137]?.getD undef = .int .i64 (n : Int) := hA.dep_ ⟨16, .data⟩ (by simp) _ 137 rfl rfl
            refine step_value (w' := x) (v := .pointer (some ⟨T1, 18 + n * 6, none⟩)) ?_ (Grows.refl _) ?_
            · go_simp
            · rfl
          · intro a x hA
            have tg : a.tmps[136]?.getD undef = .bool true := hA.dep_ ⟨15, .guard⟩ (by simp) _ 136 rfl rfl
            refine .inl ⟨by rw [wanted_of (j := 15) rfl (yielded_of (by rfl) rfl tg)]; rfl, ?_⟩
            clear tg
            have t139 : a.tmps[139]?.getD undef = .pointer (some ⟨T1, 18 + n * 6, none⟩) := hA.dep_ ⟨18, .data⟩ (by simp) _ 139 rfl rfl
            have hb := HT1.out.keep hA.grown
            have g0 : x.cell? ⟨T1, 18 + n * 6, none⟩ = some (tThere S1 (n * 6)) := hb.cell (o := 18 + n * 6) (told_there S1 (n * 6) (by omega))
            have g1 : x.cell? ⟨T1, 18 + n * 6 + 1, none⟩ = some (tThere S1 (n * 6 + 1)) := hb.cell (o := 18 + n * 6 + 1) (by rw [Nat.add_assoc]; exact told_there S1 (n * 6 + 1) (by omega))
            have g2 : x.cell? ⟨T1, 18 + n * 6 + 2, none⟩ = some (tThere S1 (n * 6 + 2)) := hb.cell (o := 18 + n * 6 + 2) (by rw [Nat.add_assoc]; exact told_there S1 (n * 6 + 2) (by omega))
            have g3 : x.cell? ⟨T1, 18 + n * 6 + 3, none⟩ = some (tThere S1 (n * 6 + 3)) := hb.cell (o := 18 + n * 6 + 3) (by rw [Nat.add_assoc]; exact told_there S1 (n * 6 + 3) (by omega))
            have g4 : x.cell? ⟨T1, 18 + n * 6 + 4, none⟩ = some (tThere S1 (n * 6 + 4)) := hb.cell (o := 18 + n * 6 + 4) (by rw [Nat.add_assoc]; exact told_there S1 (n * 6 + 4) (by omega))
            have g5 : x.cell? ⟨T1, 18 + n * 6 + 5, none⟩ = some (tThere S1 (n * 6 + 5)) := hb.cell (o := 18 + n * 6 + 5) (by rw [Nat.add_assoc]; exact told_there S1 (n * 6 + 5) (by omega))
            clear hb
            refine step_value (w' := x) (v := .agg #[tThere S1 (n * 6), tThere S1 (n * 6 + 1), tThere S1 (n * 6 + 2), tThere S1 (n * 6 + 3), tThere S1 (n * 6 + 4), tThere S1 (n * 6 + 5)]) ?_ (Grows.refl _) ?_
            · go_simp
            · rfl
          · intro a x hA
            have tg : a.tmps[136]?.getD undef = .bool true := hA.dep_ ⟨15, .guard⟩ (by simp) _ 136 rfl rfl
            refine .inl ⟨by rw [wanted_of (j := 15) rfl (yielded_of (by rfl) rfl tg)]; rfl, ?_⟩
            clear tg
            have t1 := hA.at_ 1 (by rfl) rfl
            refine step_value (w' := x) (v := .int .i64 (n : Int)) ?_ (Grows.refl _) ?_
            · go_simp
            · rfl
          · intro a x hA
            have tg : a.tmps[136]?.getD undef = .bool true := hA.dep_ ⟨15, .guard⟩ (by simp) _ 136 rfl rfl
            refine .inl ⟨by rw [wanted_of (j := 15) rfl (yielded_of (by rfl) rfl tg)]; rfl, ?_⟩
            clear tg
            have t18 := hA.at_ 18 (by rfl) rfl
            refine step_value (w' := x) (v := .pointer (some ⟨T2, 18, none⟩)) ?_ (Grows.refl _) ?_
            · go_simp
            · rfl
          · intro a x hA
            have tg : a.tmps[136]?.getD undef = .bool true := hA.dep_ ⟨15, .guard⟩ (by simp) _ 136 rfl rfl
            refine .inl ⟨by rw [wanted_of (j := 15) rfl (yielded_of (by rfl) rfl tg)]; rfl, ?_⟩
            clear tg
            have t142 : a.tmps[142]?.getD undef = .pointer (some ⟨T2, 18, none⟩) := hA.dep_ ⟨21, .data⟩ (by simp) _ 142 rfl rfl
            have t141 : a.tmps[141]?.getD undef = .int .i64 (n : Int) := hA.dep_ ⟨20, .data⟩ (by simp) _ 141 rfl rfl
            refine step_value (w' := x) (v := .pointer (some ⟨T2, 18 + n * 6, none⟩)) ?_ (Grows.refl _) ?_
            · go_simp
            · rfl
          · intro a x hA
            have tg : a.tmps[136]?.getD undef = .bool true := hA.dep_ ⟨15, .guard⟩ (by simp) _ 136 rfl rfl
            refine .inl ⟨by rw [wanted_of (j := 15) rfl (yielded_of (by rfl) rfl tg)]; rfl, ?_⟩
            clear tg
            have t143 : a.tmps[143]?.getD undef = .pointer (some ⟨T2, 18 + n * 6, none⟩) := hA.dep_ ⟨22, .data⟩ (by simp) _ 143 rfl rfl
            have hb := HT2.out.keep hA.grown
            have g0 : x.cell? ⟨T2, 18 + n * 6, none⟩ = some (tThere S1 (n * 6)) := hb.cell (o := 18 + n * 6) (by rw [← apart_tThere HA.out (n * 6) (by omega)]; exact told_there S2 (n * 6) (by omega))
            have g1 : x.cell? ⟨T2, 18 + n * 6 + 1, none⟩ = some (tThere S1 (n * 6 + 1)) := hb.cell (o := 18 + n * 6 + 1) (by rw [Nat.add_assoc, ← apart_tThere HA.out (n * 6 + 1) (by omega)]; exact told_there S2 (n * 6 + 1) (by omega))
            have g2 : x.cell? ⟨T2, 18 + n * 6 + 2, none⟩ = some (tThere S1 (n * 6 + 2)) := hb.cell (o := 18 + n * 6 + 2) (by rw [Nat.add_assoc, ← apart_tThere HA.out (n * 6 + 2) (by omega)]; exact told_there S2 (n * 6 + 2) (by omega))
            have g3 : x.cell? ⟨T2, 18 + n * 6 + 3, none⟩ = some (tThere S1 (n * 6 + 3)) := hb.cell (o := 18 + n * 6 + 3) (by rw [Nat.add_assoc, ← apart_tThere HA.out (n * 6 + 3) (by omega)]; exact told_there S2 (n * 6 + 3) (by omega))
            have g4 : x.cell? ⟨T2, 18 + n * 6 + 4, none⟩ = some (tThere S1 (n * 6 + 4)) := hb.cell (o := 18 + n * 6 + 4) (by rw [Nat.add_assoc, ← apart_tThere HA.out (n * 6 + 4) (by omega)]; exact told_there S2 (n * 6 + 4) (by omega))
            have g5 : x.cell? ⟨T2, 18 + n * 6 + 5, none⟩ = some (tThere S1 (n * 6 + 5)) := hb.cell (o := 18 + n * 6 + 5) (by rw [Nat.add_assoc, ← apart_tThere HA.out (n * 6 + 5) (by omega)]; exact told_there S2 (n * 6 + 5) (by omega))
            clear hb
            refine step_value (w' := x) (v := .agg #[tThere S1 (n * 6), tThere S1 (n * 6 + 1), tThere S1 (n * 6 + 2), tThere S1 (n * 6 + 3), tThere S1 (n * 6 + 4), tThere S1 (n * 6 + 5)]) ?_ (Grows.refl _) ?_
            · go_simp
            · rfl
          · intro a x hA
            have tg : a.tmps[136]?.getD undef = .bool true := hA.dep_ ⟨15, .guard⟩ (by simp) _ 136 rfl rfl
            refine .inl ⟨by rw [wanted_of (j := 15) rfl (yielded_of (by rfl) rfl tg)]; rfl, ?_⟩
            clear tg
            have t140 : a.tmps[140]?.getD undef = .agg #[tThere S1 (n * 6), tThere S1 (n * 6 + 1), tThere S1 (n * 6 + 2), tThere S1 (n * 6 + 3), tThere S1 (n * 6 + 4), tThere S1 (n * 6 + 5)] := hA.dep_ ⟨19, .data⟩ (by simp) _ 140 rfl rfl
            have t144 : a.tmps[144]?.getD undef = .agg #[tThere S1 (n * 6), tThere S1 (n * 6 + 1), tThere S1 (n * 6 + 2), tThere S1 (n * 6 + 3), tThere S1 (n * 6 + 4), tThere S1 (n * 6 + 5)] := hA.dep_ ⟨23, .data⟩ (by simp) _ 144 rfl rfl
            exact step_value (w' := x) (v := .bool true) (run_eql_same (cs := #[tThere S1 (n * 6), tThere S1 (n * 6 + 1), tThere S1 (n * 6 + 2), tThere S1 (n * 6 + 3), tThere S1 (n * 6 + 4), tThere S1 (n * 6 + 5)]) rfl (eval_of t140) (eval_of t144) guard_6bool (same_6bool (d := 9998) (bool6 S1 _ _ _ _ _ _)) x) (Grows.refl _) rfl
          · intro a x hA
            refine .inl ⟨rfl, ?_⟩
            have t136 : a.tmps[136]?.getD undef = .bool true := hA.dep_ ⟨15, .data⟩ (by simp) _ 136 rfl rfl
            have t145 : a.tmps[145]?.getD undef = .bool true := hA.dep_ ⟨24, .data⟩ (by simp) _ 145 rfl rfl
            refine step_value (w' := x) (v := .bool true) ?_ (Grows.refl _) ?_
            · go_simp
            · rfl
          · intro a x hA
            refine .inl ⟨rfl, ?_⟩
            have t146 : a.tmps[146]?.getD undef = .bool true := hA.dep_ ⟨25, .data⟩ (by simp) _ 146 rfl rfl
            refine step_value (w' := x) (v := .bool true) ?_ (Grows.refl _) ?_
            · go_simp
            · rfl
          · intro a x hA
            have tg : a.tmps[147]?.getD undef = .bool true := hA.dep_ ⟨26, .guard⟩ (by simp) _ 147 rfl rfl
            refine .inl ⟨by rw [wanted_of (j := 26) rfl (yielded_of (by rfl) rfl tg)]; rfl, ?_⟩
            clear tg
            have t1 := hA.at_ 1 (by rfl) rfl
            refine step_value (w' := x) (v := .int .i64 (n : Int)) ?_ (Grows.refl _) ?_
            · go_simp
            · rfl
          · intro a x hA
            have tg : a.tmps[147]?.getD undef = .bool true := hA.dep_ ⟨26, .guard⟩ (by simp) _ 147 rfl rfl
            refine .inl ⟨by rw [wanted_of (j := 26) rfl (yielded_of (by rfl) rfl tg)]; rfl, ?_⟩
            clear tg
            have t16 := hA.at_ 16 (by rfl) rfl
            refine step_value (w' := x) (v := .pointer (some ⟨T1, 36, none⟩)) ?_ (Grows.refl _) ?_
            · go_simp
            · rfl
          · intro a x hA
            have tg : a.tmps[147]?.getD undef = .bool true := hA.dep_ ⟨26, .guard⟩ (by simp) _ 147 rfl rfl
            refine .inl ⟨by rw [wanted_of (j := 26) rfl (yielded_of (by rfl) rfl tg)]; rfl, ?_⟩
            clear tg
            have t149 : a.tmps[149]?.getD undef = .pointer (some ⟨T1, 36, none⟩) := hA.dep_ ⟨28, .data⟩ (by simp) _ 149 rfl rfl
            have t148 : a.tmps[148]?.getD undef = .int .i64 (n : Int) := hA.dep_ ⟨27, .data⟩ (by simp) _ 148 rfl rfl
            refine step_value (w' := x) (v := .pointer (some ⟨T1, 36 + n, none⟩)) ?_ (Grows.refl _) ?_
            · go_simp
            · rfl
          · intro a x hA
            have tg : a.tmps[147]?.getD undef = .bool true := hA.dep_ ⟨26, .guard⟩ (by simp) _ 147 rfl rfl
            refine .inl ⟨by rw [wanted_of (j := 26) rfl (yielded_of (by rfl) rfl tg)]; rfl, ?_⟩
            clear tg
            have t150 : a.tmps[150]?.getD undef = .pointer (some ⟨T1, 36 + n, none⟩) := hA.dep_ ⟨29, .data⟩ (by simp) _ 150 rfl rfl
            have hb := HT1.out.keep hA.grown
            have g0 : x.cell? ⟨T1, 36 + n, none⟩ = some (.bool sl) := hb.cell (o := 36 + n) (by rw [← HSL.out]; exact told_sealed S1 n (by omega))
            clear hb
            refine step_value (w' := x) (v := .bool sl) ?_ (Grows.refl _) ?_
            · go_simp
            · rfl
          · intro a x hA
            have tg : a.tmps[147]?.getD undef = .bool true := hA.dep_ ⟨26, .guard⟩ (by simp) _ 147 rfl rfl
            refine .inl ⟨by rw [wanted_of (j := 26) rfl (yielded_of (by rfl) rfl tg)]; rfl, ?_⟩
            clear tg
            have t1 := hA.at_ 1 (by rfl) rfl
            refine step_value (w' := x) (v := .int .i64 (n : Int)) ?_ (Grows.refl _) ?_
            · go_simp
            · rfl
          · intro a x hA
            have tg : a.tmps[147]?.getD undef = .bool true := hA.dep_ ⟨26, .guard⟩ (by simp) _ 147 rfl rfl
            refine .inl ⟨by rw [wanted_of (j := 26) rfl (yielded_of (by rfl) rfl tg)]; rfl, ?_⟩
            clear tg
            have t18 := hA.at_ 18 (by rfl) rfl
            refine step_value (w' := x) (v := .pointer (some ⟨T2, 36, none⟩)) ?_ (Grows.refl _) ?_
            · go_simp
            · rfl
          · intro a x hA
            have tg : a.tmps[147]?.getD undef = .bool true := hA.dep_ ⟨26, .guard⟩ (by simp) _ 147 rfl rfl
            refine .inl ⟨by rw [wanted_of (j := 26) rfl (yielded_of (by rfl) rfl tg)]; rfl, ?_⟩
            clear tg
            have t153 : a.tmps[153]?.getD undef = .pointer (some ⟨T2, 36, none⟩) := hA.dep_ ⟨32, .data⟩ (by simp) _ 153 rfl rfl
            have t152 : a.tmps[152]?.getD undef = .int .i64 (n : Int) := hA.dep_ ⟨31, .data⟩ (by simp) _ 152 rfl rfl
            refine step_value (w' := x) (v := .pointer (some ⟨T2, 36 + n, none⟩)) ?_ (Grows.refl _) ?_
            · go_simp
            · rfl
          · intro a x hA
            have tg : a.tmps[147]?.getD undef = .bool true := hA.dep_ ⟨26, .guard⟩ (by simp) _ 147 rfl rfl
            refine .inl ⟨by rw [wanted_of (j := 26) rfl (yielded_of (by rfl) rfl tg)]; rfl, ?_⟩
            clear tg
            have t154 : a.tmps[154]?.getD undef = .pointer (some ⟨T2, 36 + n, none⟩) := hA.dep_ ⟨33, .data⟩ (by simp) _ 154 rfl rfl
            have hb := HT2.out.keep hA.grown
            have g0 : x.cell? ⟨T2, 36 + n, none⟩ = some (.bool sl) := hb.cell (o := 36 + n) (by rw [← HSL.out, HA.out.get]; exact told_sealed S2 n (by omega))
            clear hb
            refine step_value (w' := x) (v := .bool sl) ?_ (Grows.refl _) ?_
            · go_simp
            · rfl
          · intro a x hA
            have tg : a.tmps[147]?.getD undef = .bool true := hA.dep_ ⟨26, .guard⟩ (by simp) _ 147 rfl rfl
            refine .inl ⟨by rw [wanted_of (j := 26) rfl (yielded_of (by rfl) rfl tg)]; rfl, ?_⟩
            clear tg
            have t151 : a.tmps[151]?.getD undef = .bool sl := hA.dep_ ⟨30, .data⟩ (by simp) _ 151 rfl rfl
            have t155 : a.tmps[155]?.getD undef = .bool sl := hA.dep_ ⟨34, .data⟩ (by simp) _ 155 rfl rfl
            refine step_value (w' := x) (v := .bool true) ?_ (Grows.refl _) ?_
            · go_simp
            · rfl
          · intro a x hA
            refine .inl ⟨rfl, ?_⟩
            have t147 : a.tmps[147]?.getD undef = .bool true := hA.dep_ ⟨26, .data⟩ (by simp) _ 147 rfl rfl
            have t156 : a.tmps[156]?.getD undef = .bool true := hA.dep_ ⟨35, .data⟩ (by simp) _ 156 rfl rfl
            refine step_value (w' := x) (v := .bool true) ?_ (Grows.refl _) ?_
            · go_simp
            · rfl
          · intro a x hA
            refine .inl ⟨rfl, ?_⟩
            have t157 : a.tmps[157]?.getD undef = .bool true := hA.dep_ ⟨36, .data⟩ (by simp) _ 157 rfl rfl
            refine step_value (w' := x) (v := .bool true) ?_ (Grows.refl _) ?_
            · go_simp
            · rfl
          · intro a x hA
            have tg : a.tmps[158]?.getD undef = .bool true := hA.dep_ ⟨37, .guard⟩ (by simp) _ 158 rfl rfl
            refine .inl ⟨by rw [wanted_of (j := 37) rfl (yielded_of (by rfl) rfl tg)]; rfl, ?_⟩
            clear tg
            have t1 := hA.at_ 1 (by rfl) rfl
            refine step_value (w' := x) (v := .int .i64 (n : Int)) ?_ (Grows.refl _) ?_
            · go_simp
            · rfl
          · intro a x hA
            have tg : a.tmps[158]?.getD undef = .bool true := hA.dep_ ⟨37, .guard⟩ (by simp) _ 158 rfl rfl
            refine .inl ⟨by rw [wanted_of (j := 37) rfl (yielded_of (by rfl) rfl tg)]; rfl, ?_⟩
            clear tg
            have t16 := hA.at_ 16 (by rfl) rfl
            refine step_value (w' := x) (v := .pointer (some ⟨T1, 39, none⟩)) ?_ (Grows.refl _) ?_
            · go_simp
            · rfl
          · intro a x hA
            have tg : a.tmps[158]?.getD undef = .bool true := hA.dep_ ⟨37, .guard⟩ (by simp) _ 158 rfl rfl
            refine .inl ⟨by rw [wanted_of (j := 37) rfl (yielded_of (by rfl) rfl tg)]; rfl, ?_⟩
            clear tg
            have t160 : a.tmps[160]?.getD undef = .pointer (some ⟨T1, 39, none⟩) := hA.dep_ ⟨39, .data⟩ (by simp) _ 160 rfl rfl
            have t159 : a.tmps[159]?.getD undef = .int .i64 (n : Int) := hA.dep_ ⟨38, .data⟩ (by simp) _ 159 rfl rfl
            refine step_value (w' := x) (v := .pointer (some ⟨T1, 39 + n, none⟩)) ?_ (Grows.refl _) ?_
            · go_simp
            · rfl
          · intro a x hA
            have tg : a.tmps[158]?.getD undef = .bool true := hA.dep_ ⟨37, .guard⟩ (by simp) _ 158 rfl rfl
            refine .inl ⟨by rw [wanted_of (j := 37) rfl (yielded_of (by rfl) rfl tg)]; rfl, ?_⟩
            clear tg
            have t161 : a.tmps[161]?.getD undef = .pointer (some ⟨T1, 39 + n, none⟩) := hA.dep_ ⟨40, .data⟩ (by simp) _ 161 rfl rfl
            have hb := HT1.out.keep hA.grown
            have g0 : x.cell? ⟨T1, 39 + n, none⟩ = some (.int .i64 tr) := hb.cell (o := 39 + n) (by rw [← HTR.out]; exact told_trim S1 n (by omega))
            clear hb
            refine step_value (w' := x) (v := .int .i64 tr) ?_ (Grows.refl _) ?_
            · go_simp
            · rfl
          · intro a x hA
            have tg : a.tmps[158]?.getD undef = .bool true := hA.dep_ ⟨37, .guard⟩ (by simp) _ 158 rfl rfl
            refine .inl ⟨by rw [wanted_of (j := 37) rfl (yielded_of (by rfl) rfl tg)]; rfl, ?_⟩
            clear tg
            have t1 := hA.at_ 1 (by rfl) rfl
            refine step_value (w' := x) (v := .int .i64 (n : Int)) ?_ (Grows.refl _) ?_
            · go_simp
            · rfl
          · intro a x hA
            have tg : a.tmps[158]?.getD undef = .bool true := hA.dep_ ⟨37, .guard⟩ (by simp) _ 158 rfl rfl
            refine .inl ⟨by rw [wanted_of (j := 37) rfl (yielded_of (by rfl) rfl tg)]; rfl, ?_⟩
            clear tg
            have t18 := hA.at_ 18 (by rfl) rfl
            refine step_value (w' := x) (v := .pointer (some ⟨T2, 39, none⟩)) ?_ (Grows.refl _) ?_
            · go_simp
            · rfl
          · intro a x hA
            have tg : a.tmps[158]?.getD undef = .bool true := hA.dep_ ⟨37, .guard⟩ (by simp) _ 158 rfl rfl
            refine .inl ⟨by rw [wanted_of (j := 37) rfl (yielded_of (by rfl) rfl tg)]; rfl, ?_⟩
            clear tg
            have t164 : a.tmps[164]?.getD undef = .pointer (some ⟨T2, 39, none⟩) := hA.dep_ ⟨43, .data⟩ (by simp) _ 164 rfl rfl
            have t163 : a.tmps[163]?.getD undef = .int .i64 (n : Int) := hA.dep_ ⟨42, .data⟩ (by simp) _ 163 rfl rfl
            refine step_value (w' := x) (v := .pointer (some ⟨T2, 39 + n, none⟩)) ?_ (Grows.refl _) ?_
            · go_simp
            · rfl
          · intro a x hA
            have tg : a.tmps[158]?.getD undef = .bool true := hA.dep_ ⟨37, .guard⟩ (by simp) _ 158 rfl rfl
            refine .inl ⟨by rw [wanted_of (j := 37) rfl (yielded_of (by rfl) rfl tg)]; rfl, ?_⟩
            clear tg
            have t165 : a.tmps[165]?.getD undef = .pointer (some ⟨T2, 39 + n, none⟩) := hA.dep_ ⟨44, .data⟩ (by simp) _ 165 rfl rfl
            have hb := HT2.out.keep hA.grown
            have g0 : x.cell? ⟨T2, 39 + n, none⟩ = some (.int .i64 tr) := hb.cell (o := 39 + n) (by rw [← HTR.out, HA.out.get]; exact told_trim S2 n (by omega))
            clear hb
            refine step_value (w' := x) (v := .int .i64 tr) ?_ (Grows.refl _) ?_
            · go_simp
            · rfl
          · intro a x hA
            have tg : a.tmps[158]?.getD undef = .bool true := hA.dep_ ⟨37, .guard⟩ (by simp) _ 158 rfl rfl
            refine .inl ⟨by rw [wanted_of (j := 37) rfl (yielded_of (by rfl) rfl tg)]; rfl, ?_⟩
            clear tg
            have t162 : a.tmps[162]?.getD undef = .int .i64 tr := hA.dep_ ⟨41, .data⟩ (by simp) _ 162 rfl rfl
            have t166 : a.tmps[166]?.getD undef = .int .i64 tr := hA.dep_ ⟨45, .data⟩ (by simp) _ 166 rfl rfl
            refine step_value (w' := x) (v := .bool true) ?_ (Grows.refl _) ?_
            · go_simp
            · rfl
          · intro a x hA
            refine .inl ⟨rfl, ?_⟩
            have t158 : a.tmps[158]?.getD undef = .bool true := hA.dep_ ⟨37, .data⟩ (by simp) _ 158 rfl rfl
            have t167 : a.tmps[167]?.getD undef = .bool true := hA.dep_ ⟨46, .data⟩ (by simp) _ 167 rfl rfl
            refine step_value (w' := x) (v := .bool true) ?_ (Grows.refl _) ?_
            · go_simp
            · rfl
          · intro a x hA
            refine .inl ⟨rfl, ?_⟩
            have t168 : a.tmps[168]?.getD undef = .bool true := hA.dep_ ⟨47, .data⟩ (by simp) _ 168 rfl rfl
            refine step_value (w' := x) (v := .bool true) ?_ (Grows.refl _) ?_
            · go_simp
            · rfl
          · intro a x hA
            have tg : a.tmps[169]?.getD undef = .bool true := hA.dep_ ⟨48, .guard⟩ (by simp) _ 169 rfl rfl
            refine .inl ⟨by rw [wanted_of (j := 48) rfl (yielded_of (by rfl) rfl tg)]; rfl, ?_⟩
            clear tg
            have t9 := hA.at_ 9 (by rfl) rfl
            refine step_value (w' := x) (v := .pointer (some ⟨q1.s, 0, none⟩)) ?_ (Grows.refl _) ?_
            · go_simp
            · rfl
          · intro a x hA
            have tg : a.tmps[169]?.getD undef = .bool true := hA.dep_ ⟨48, .guard⟩ (by simp) _ 169 rfl rfl
            refine .inl ⟨by rw [wanted_of (j := 48) rfl (yielded_of (by rfl) rfl tg)]; rfl, ?_⟩
            clear tg
            have t1 := hA.at_ 1 (by rfl) rfl
            refine step_value (w' := x) (v := .int .i64 (n : Int)) ?_ (Grows.refl _) ?_
            · go_simp
            · rfl
          · intro a x hA
            have tg : a.tmps[169]?.getD undef = .bool true := hA.dep_ ⟨48, .guard⟩ (by simp) _ 169 rfl rfl
            refine .inl ⟨by rw [wanted_of (j := 48) rfl (yielded_of (by rfl) rfl tg)]; rfl, ?_⟩
            clear tg
            have t170 : a.tmps[170]?.getD undef = .pointer (some ⟨q1.s, 0, none⟩) := hA.dep_ ⟨49, .data⟩ (by simp) _ 170 rfl rfl
            have t171 : a.tmps[171]?.getD undef = .int .i64 (n : Int) := hA.dep_ ⟨50, .data⟩ (by simp) _ 171 rfl rfl
            have hst := HR.out.at1.keep hA.grown
            refine step_call (f := 21) (args := #[.pointer (some ⟨q1.s, 0, none⟩), .int .i64 (n : Int)]) (by clear hst; go_simp) ?_
            have hT := store_Tail hst (n : Int)
            rw [HQ1.out, HTL.out] at hT
            refine hT.mono ?_
            rintro e w' ⟨rfl, hb9⟩
            exact ⟨_, rfl, hb9, rfl⟩
          · intro a x hA
            have tg : a.tmps[169]?.getD undef = .bool true := hA.dep_ ⟨48, .guard⟩ (by simp) _ 169 rfl rfl
            refine .inl ⟨by rw [wanted_of (j := 48) rfl (yielded_of (by rfl) rfl tg)]; rfl, ?_⟩
            clear tg
            have t11 := hA.at_ 11 (by rfl) rfl
            refine step_value (w' := x) (v := .pointer (some ⟨q2.s, 0, none⟩)) ?_ (Grows.refl _) ?_
            · go_simp
            · rfl
          · intro a x hA
            have tg : a.tmps[169]?.getD undef = .bool true := hA.dep_ ⟨48, .guard⟩ (by simp) _ 169 rfl rfl
            refine .inl ⟨by rw [wanted_of (j := 48) rfl (yielded_of (by rfl) rfl tg)]; rfl, ?_⟩
            clear tg
            have t1 := hA.at_ 1 (by rfl) rfl
            refine step_value (w' := x) (v := .int .i64 (n : Int)) ?_ (Grows.refl _) ?_
            · go_simp
            · rfl
          · intro a x hA
            have tg : a.tmps[169]?.getD undef = .bool true := hA.dep_ ⟨48, .guard⟩ (by simp) _ 169 rfl rfl
            refine .inl ⟨by rw [wanted_of (j := 48) rfl (yielded_of (by rfl) rfl tg)]; rfl, ?_⟩
            clear tg
            have t173 : a.tmps[173]?.getD undef = .pointer (some ⟨q2.s, 0, none⟩) := hA.dep_ ⟨52, .data⟩ (by simp) _ 173 rfl rfl
            have t174 : a.tmps[174]?.getD undef = .int .i64 (n : Int) := hA.dep_ ⟨53, .data⟩ (by simp) _ 174 rfl rfl
            have hst := HR.out.at2.keep hA.grown
            refine step_call (f := 21) (args := #[.pointer (some ⟨q2.s, 0, none⟩), .int .i64 (n : Int)]) (by clear hst; go_simp) ?_
            have hT := store_Tail hst (n : Int)
            rw [HQ2.out, ← HA.out.get, HTL.out] at hT
            refine hT.mono ?_
            rintro e w' ⟨rfl, hb9⟩
            exact ⟨_, rfl, hb9, rfl⟩
          · intro a x hA
            have tg : a.tmps[169]?.getD undef = .bool true := hA.dep_ ⟨48, .guard⟩ (by simp) _ 169 rfl rfl
            refine .inl ⟨by rw [wanted_of (j := 48) rfl (yielded_of (by rfl) rfl tg)]; rfl, ?_⟩
            clear tg
            have t172 : a.tmps[172]?.getD undef = .int .i64 tl := hA.dep_ ⟨51, .data⟩ (by simp) _ 172 rfl rfl
            have t175 : a.tmps[175]?.getD undef = .int .i64 tl := hA.dep_ ⟨54, .data⟩ (by simp) _ 175 rfl rfl
            refine step_value (w' := x) (v := .bool true) ?_ (Grows.refl _) ?_
            · go_simp
            · rfl
          · intro a x hA
            refine .inl ⟨rfl, ?_⟩
            have t169 : a.tmps[169]?.getD undef = .bool true := hA.dep_ ⟨48, .data⟩ (by simp) _ 169 rfl rfl
            have t176 : a.tmps[176]?.getD undef = .bool true := hA.dep_ ⟨55, .data⟩ (by simp) _ 176 rfl rfl
            refine step_value (w' := x) (v := .bool true) ?_ (Grows.refl _) ?_
            · go_simp
            · rfl
          · intro a x hA
            refine .inl ⟨rfl, ?_⟩
            have t177 : a.tmps[177]?.getD undef = .bool true := hA.dep_ ⟨56, .data⟩ (by simp) _ 177 rfl rfl
            refine step_value (w' := x) (v := .bool true) ?_ (Grows.refl _) ?_
            · go_simp
            · rfl
        case rfin =>
          intro y W' hg hV
          simp only [AllVals] at hV
          obtain ⟨_, _, _, _, _, _, _, _, _, _, _, _, _, _, _, _, _, _, _, _, _, _, _, _, _, _, _, _, _, _, _, _, _, _, _, _, _, _, _, _, _, _, _, _, _, _, _, _, _, _, _, _, _, _, _, _, _, h57, _⟩ := hV
          have hbW := HBW.out.trans (Below.mono (Below.trans (below_of_drewN _ _ 1) hg) HBW.out.size)
          clear hg
          simp only [putAll, Act.put, List.setIfInBounds_toArray, List.set_cons_zero, List.set_cons_succ]
          rw [h57]
          clear h57
          go_wp2_with fail
          go_ret
          exact ⟨rfl, hbW⟩
end Go.Proofs.Ytbofcocfcmlcaaa
