import Derived.Test.YtbahjinlcbjikaaGreatMQTwA
/-! gazettelaw07.LogletTwice. -/
namespace Go.Proofs.YtbahjinlcbjikaaGreat
open Go.RowKit

theorem mod20_nums (x : Int) : ∃ n : Nat, 1 ≤ n ∧ n ≤ 20 ∧ wrap64 (x.tmod 20 + 20) = x.tmod 20 + 20 ∧ wrap64 (1 + (x.tmod 20 + 20).tmod 20) = (n : Int) := by
  have h1 := Int.lt_tmod_of_pos x (show (0 : Int) < 20 by omega)
  have h2 := Int.tmod_lt_of_pos x (show (0 : Int) < 20 by omega)
  have hb : 0 ≤ (x.tmod 20 + 20).tmod 20 ∧ (x.tmod 20 + 20).tmod 20 < 20 := ⟨Int.tmod_nonneg 20 (by omega), Int.tmod_lt_of_pos _ (by omega)⟩
  refine ⟨(1 + (x.tmod 20 + 20).tmod 20).toNat, by omega, by omega, ?_, ?_⟩
  · generalize x.tmod 20 = t at *
    unfold wrap64
    omega
  · generalize (x.tmod 20 + 20).tmod 20 = t at *
    unfold wrap64
    omega
theorem modc_nums (x : Int) (c : Nat) (h0 : 0 < c) (h1 : c ≤ 20) : ∃ k : Nat, k < c ∧ IntKind.i64.wrap (x.tmod c + c) = x.tmod c + c ∧ (x.tmod c + c).tmod c = (k : Int) := by
  have hc : (0 : Int) < c := by omega
  have h2 := Int.lt_tmod_of_pos x hc
  have h3 := Int.tmod_lt_of_pos x hc
  have hb : 0 ≤ (x.tmod c + c).tmod c ∧ (x.tmod c + c).tmod c < c := ⟨Int.tmod_nonneg _ (by omega), Int.tmod_lt_of_pos _ hc⟩
  refine ⟨((x.tmod c + c).tmod c).toNat, by omega, ?_, by omega⟩
  generalize x.tmod c = t at *
  rw [IntKind.wrap_i64]
  omega
theorem w64_few {k : Nat} (h : k ≤ 20) : wrap64 ((k : Int) + 1) = (k : Int) + 1 := by unfold wrap64; omega
theorem Tw.room {s : LkS} {c : Nat} (h : s.net.late.length ≤ 40) (hc : c ≤ 2200000000) : s.room c := by unfold LkS.room; omega
theorem tw_luck {s : LkS} {n : Nat} {sl : Bool} (h : Tw s n sl) : s.net.luck = [] := by
  obtain ⟨⟨X0, X1, X2, f, t, hs, _⟩, _⟩ := h
  rw [hs]
  rfl
theorem tw_may {s : LkS} {n : Nat} {sl : Bool} (h : Tw s n sl) {pos most : Int} (hp : 0 ≤ pos ∧ pos ≤ most) : mayB s ⟨1, [0, 1, 2]⟩ pos most = true := by
  obtain ⟨⟨X0, X1, X2, f, t, hs, _⟩, _⟩ := h
  rw [hs]
  exact may_three hp
theorem tw_may_luck {s : LkS} {n : Nat} {sl : Bool} (h : Tw s n sl) {pos most : Int} (hp : 0 ≤ pos ∧ pos ≤ most) (l : List Int) : mayB (luckL s l) ⟨1, [0, 1, 2]⟩ pos most = true := tw_may h hp
/-- The link between the calls of the law. -/
def TwAt (W w : World) (L : Nat) (n : Nat) (sl : Bool) (c : Nat) : Prop := ∃ s, Tw s n sl ∧ s.net.late.length = c ∧ LkO W w L s (fun b => b < W.heap.size)
theorem TwAt.keep {W w w2 : World} {L n c : Nat} {sl : Bool} (h : TwAt W w L n sl c) (hb : Below w.heap.size w w2) : TwAt W w2 L n sl c := by
  obtain ⟨s, h1, h2, h3⟩ := h
  exact ⟨s, h1, h2, h3.keep hb⟩
section
variable {W w : World} {L n c : Nat} {sl : Bool}
theorem TwAt.cell (h : TwAt W w L n sl c) : ∃ N, LkO.net w L N ∧ (∀ x, LkO.net w L x → x = N) ∧ W.heap.size ≤ w.heap.size := by
  obtain ⟨s, h1, h2, h3⟩ := h
  obtain ⟨N, hN⟩ := h3.netAt
  refine ⟨N, hN, fun x hx => ?_, h3.size⟩
  unfold LkO.net at hN hx
  rw [hN] at hx
  simp only [Option.some.injEq, Value.pointer.injEq, Addr.mk.injEq, and_true] at hx
  exact hx.symm
theorem tw_Late (h : TwAt W w L n sl c) {N : Nat} (hN : LkO.net w L N) : Calls Tryz.prog 29 #[.pointer (some ⟨N, 0, none⟩)] w fun e w' => e = .returned (.int .i64 (c : Int)) ∧ w' = w := by
  obtain ⟨s, h1, h2, h3⟩ := h
  have := lko_late h3 hN
  rw [h2] at this
  exact this
theorem tw_Made (h : TwAt W w L n sl c) {N : Nat} (hN : LkO.net w L N) : Calls Tryz.prog 16 #[.pointer (some ⟨N, 0, none⟩)] w fun e w' => e = .returned (.bool true) ∧ w' = w := by
  obtain ⟨s, h1, h2, h3⟩ := h
  exact lko_made h3 hN
theorem tw_Double (h : TwAt W w L n false c) {N : Nat} (hN : LkO.net w L N) {k : Nat} (hk : k < c) (hc : c ≤ 20) : Calls Tryz.prog 30 #[.pointer (some ⟨N, 0, none⟩), .int .i64 (k : Int)] w fun e w' => e = .returned (.bool true) ∧ TwAt W w' L n false (c + 1) := by
  obtain ⟨s, h1, h2, h3⟩ := h
  obtain ⟨m, hm⟩ : ∃ m, s.net.late[k]? = some m := ⟨s.net.late[k]'(by omega), by simp⟩
  refine (lko_double h3 hN k m hm (Tw.room (by omega) (by omega))).mono ?_
  rintro e w' ⟨rfl, g1, g2⟩
  exact ⟨rfl, doubleM s m, tw_double h1 hm, by show (s.net.late ++ [m]).length = c + 1; simp [h2], g1⟩
theorem tw_Deliver (h : TwAt W w L n false c) {k : Nat} (hk : k < c) : Calls Tryz.prog 23 #[.pointer (some ⟨L, 0, none⟩), .int .i64 (k : Int)] w fun e w' => e = .returned (.bool true) ∧ TwAt W w' L n false (c - 1) := by
  obtain ⟨s, h1, h2, h3⟩ := h
  obtain ⟨m, hm⟩ : ∃ m, s.net.late[k]? = some m := ⟨s.net.late[k]'(by omega), by simp⟩
  have hml : m.2.length ≤ 1000000 := by
    obtain ⟨j, _, rfl⟩ := h1.late m (List.mem_of_getElem? hm)
    show (frameB 1 (reqB 1 1 (j : Int) (dataB j))).length ≤ 1000000
    rw [frame_length]
    simp [reqB, lowB_length, dataB]
  refine (lko_deliver h3 k m hm hml).mono ?_
  rintro e w' ⟨rfl, g1, g2⟩
  refine ⟨rfl, deliverM s k m, tw_deliver h1 hm, ?_, g1⟩
  show (s.net.late.eraseIdx k).length = c - 1
  rw [List.length_eraseIdx_of_lt (by omega), h2]
/-- Luck is given, three more places are asked: one message is late. -/
theorem tw_Append (h : TwAt W w L n false n) (hn : n < 20) {N : Nat} (hN : LkO.net w L N) {v : Value} (hv : Is w v [0, 4, 3]) :
    Calls Tryz.prog 27 #[.pointer (some ⟨N, 0, none⟩), v] w fun e w' => (∃ x, e = .returned x) ∧ W.heap.size ≤ w'.heap.size ∧ ∀ (w2 : World) (nv dv : Value), Below w'.heap.size w' w2 → Is w2 nv [0, 1, 2] → (∀ g, nv.ownBlock = some g → w'.heap.size ≤ g ∧ g < w2.heap.size) → Bs w2 dv (dataB n) → (∀ g, dv.ownBlock = some g → w'.heap.size ≤ g ∧ g < w2.heap.size) →
      Calls Tryz.prog 18 #[.pointer (some ⟨L, 0, none⟩), .agg #[.int .i64 1, nv], .int .i64 (n : Int), dv] w2 fun e w' => e = .returned (.int .i64 0) ∧ TwAt W w' L (n + 1) false (n + 1) := by
  obtain ⟨s, h1, h2, h3⟩ := h
  refine (lko_luck h3 hN v [0, 4, 3] hv (by rw [tw_luck h1]; decide)).mono ?_
  rintro e w' ⟨hx, g1, _⟩
  refine ⟨hx, g1.size, fun w2 nv dv hb hn2 hnv hd hdv => ?_⟩
  have hO := g1.more (O' := fun b => b < W.heap.size ∨ nv.ownBlock = some b ∨ dv.ownBlock = some b) hb (fun b hb9 => by
    have := hb.size
    have := g1.size
    rcases hb9 with h | h | h
    · exact ⟨by omega, .inl h⟩
    · exact ⟨(hnv b h).2, .inr (hnv b h).1⟩
    · exact ⟨(hdv b h).2, .inr (hdv b h).1⟩)
  obtain ⟨s', a1, a2, a3⟩ := tw_append h1 hn
  have hl : (luckL s [0, 4, 3]).net.late.length = n := h2
  refine (lko_append hO (Tw.room (by omega) (by omega)) 1 nv [0, 1, 2] hn2 (fun g hg => .inr (.inl hg)) (by decide) (n : Int) dv (dataB n) (tw_may_luck h1 (by omega) _) (by rw [dataB_len]; omega) hd (fun g hg => .inr (.inr hg))).mono ?_
  rw [a1]
  rintro e w3 ⟨rfl, q1, _⟩
  exact ⟨rfl, s', a2, by rw [a3, h2], q1.sub (fun b h => .inl h)⟩
theorem tw_Read (h : TwAt W w L n sl c) (hc : c ≤ 40) {i : Nat} (hi : i < n) {w2 : World} {nv : Value} (hb : Below w.heap.size w w2) (hn2 : Is w2 nv [0, 1, 2]) (hnv : ∀ g, nv.ownBlock = some g → w.heap.size ≤ g ∧ g < w2.heap.size) :
    Calls Tryz.prog 19 #[.pointer (some ⟨L, 0, none⟩), .agg #[.int .i64 1, nv], .int .i64 (i : Int)] w2 fun e w' => ∃ v, e = .returned (.tuple #[v, .int .i64 0]) ∧ TwAt W w' L n sl c ∧ Bs w' v (dataB i) := by
  obtain ⟨s, h1, h2, h3⟩ := h
  have hO := h3.more (O' := fun b => b < W.heap.size ∨ nv.ownBlock = some b) hb (fun b hb9 => by
    have := hb.size
    have := h3.size
    rcases hb9 with h | h
    · exact ⟨by omega, .inl h⟩
    · exact ⟨(hnv b h).2, .inr (hnv b h).1⟩)
  have hfew := h1.few
  refine (lko_read hO (Tw.room (by omega) (by omega)) 1 nv [0, 1, 2] hn2 (fun g hg => .inr hg) (by decide) (i : Int) (tw_may h1 (by omega))).mono ?_
  rw [tw_read h1 hi]
  rintro e w3 ⟨v, rfl, q1, _, q3, _⟩
  exact ⟨v, rfl, ⟨s, h1, h2, q1.sub (fun b h => .inl (.inl h))⟩, q3⟩
theorem tw_Seal (h : TwAt W w L n false c) (hc : c ≤ 40) {w2 : World} {nv : Value} (hb : Below w.heap.size w w2) (hn2 : Is w2 nv [0, 1, 2]) (hnv : ∀ g, nv.ownBlock = some g → w.heap.size ≤ g ∧ g < w2.heap.size) :
    Calls Tryz.prog 20 #[.pointer (some ⟨L, 0, none⟩), .agg #[.int .i64 1, nv]] w2 fun e w' => e = .returned (.tuple #[.int .i64 (n : Int), .int .i64 0]) ∧ TwAt W w' L n true c := by
  obtain ⟨s, h1, h2, h3⟩ := h
  have hO := h3.more (O' := fun b => b < W.heap.size ∨ nv.ownBlock = some b) hb (fun b hb9 => by
    have := hb.size
    have := h3.size
    rcases hb9 with h | h
    · exact ⟨by omega, .inl h⟩
    · exact ⟨(hnv b h).2, .inr (hnv b h).1⟩)
  obtain ⟨s', a1, a2, a3⟩ := tw_seal h1
  refine (lko_seal hO (Tw.room (by omega) (by omega)) 1 nv [0, 1, 2] hn2 (fun g hg => .inr hg) (by decide) (tw_may h1 (by omega))).mono ?_
  rw [a1]
  rintro e w3 ⟨rfl, q1, _⟩
  exact ⟨rfl, s', a2, by rw [a3, h2], q1.sub (fun b h => .inl h)⟩
theorem tw_Repair (h : TwAt W w L n sl c) (hc : c ≤ 40) {w2 : World} {nv : Value} (hb : Below w.heap.size w w2) (hn2 : Is w2 nv [0, 1, 2]) (hnv : ∀ g, nv.ownBlock = some g → w.heap.size ≤ g ∧ g < w2.heap.size) :
    Calls Tryz.prog 24 #[.pointer (some ⟨L, 0, none⟩), .agg #[.int .i64 1, nv], .int .i64 0, .int .i64 (n : Int)] w2 fun e w' => e = .returned (.int .i64 0) ∧ TwAt W w' L n sl c := by
  obtain ⟨s, h1, h2, h3⟩ := h
  have hO := h3.more (O' := fun b => b < W.heap.size ∨ nv.ownBlock = some b) hb (fun b hb9 => by
    have := hb.size
    have := h3.size
    rcases hb9 with h | h
    · exact ⟨by omega, .inl h⟩
    · exact ⟨(hnv b h).2, .inr (hnv b h).1⟩)
  have hfew := h1.few
  obtain ⟨a1, a2⟩ := tw_repair h1 n 0 (by omega)
  have e0 : ((n : Int) - 0).toNat = n := by omega
  have hm : mayB s ⟨1, [0, 1, 2]⟩ 0 (n : Int) = true := tw_may h1 (by omega)
  refine (lko_repair hO (Tw.room (by omega) (by omega)) 1 nv [0, 1, 2] hn2 (fun g hg => .inr hg) (by decide) 0 (n : Int) hm (by omega) (by rw [e0]; exact a1)).mono ?_
  have hr : repairL s ⟨1, [0, 1, 2]⟩ 0 (n : Int) = (0, s) := by
    unfold repairL
    rw [if_pos ⟨hm, by omega⟩, e0]
    exact a2
  rw [hr]
  rintro e w3 ⟨rfl, q1, _⟩
  exact ⟨rfl, s, h1, h2, q1.sub (fun b h => .inl h)⟩
end
section
variable {W : World}
set_option maxRecDepth 100000 in
set_option maxHeartbeats 12800000 in
theorem law7_twice (n0 : Int) (lv : Value) (ls : List Int) (hv : Is W lv ls) (hll : ls.length ≤ 9223372036854775807) :
    Calls Tryz.prog 6 #[.int .i64 n0, lv] W fun e w' => e = .returned (.bool true) ∧ Below W.heap.size W w' := by
  obtain ⟨n, hn1, hn20, hw1, hw2⟩ := mod20_nums n0
  obtain ⟨la, lc, hlv⟩ : ∃ a c, lv = .slice a ls.length c := by obtain ⟨a, c, e, _⟩ := hv; exact ⟨a, c, e⟩
  subst hlv
  have HV := hid hv
  have HW := hid (And.intro hw1 hw2)
  have HN := hid (law7_Nodes (W := W) 3 200 (by decide) (by decide) (by decide) (by decide))
  clear hv hw1 hw2
  go_enter Tryz.func6, Tryz.ntmps6
  go_wp2_with fail
  refine HN.out.mono ?_
  rintro e A0 ⟨L, p0, rfl, hL0, b0, ha0⟩
  have T0 : TwAt W A0 L 0 false 0 := ⟨_, tw_begin, rfl, lko_begin hL0 b0 ha0⟩
  have c0 : A0.cell? ⟨L, 0, none⟩ = some (.pointer (some ⟨p0.q.N, 0, none⟩)) := hL0.link.cell (o := 0) rfl
  have HM := hid (tw_Made T0 (N := p0.q.N) c0)
  have HT0 := hid T0
  clear hL0 b0 ha0 T0 HN
  go_wp2_with fail
  refine HM.out.mono ?_
  rintro e wd ⟨rfl, hwd⟩
  rw [hwd]
  clear hwd wd HM
  go_wp2_with fail
  refine (law7_knows (W := A0)).mono ?_
  rintro e A1 ⟨rfl, b1⟩
  have HT1 := hid (HT0.out.keep b1)
  clear b1 c0 HT0
  go_upto_region 4 with fail
  go_cut [0] from 29 (fun m wx => m = .int .i64 (n : Int) ∧ A1 = wx)
  case first =>
    have hw1 := HW.out.1
    go_wp2_with fail
    go_meet
    case rel => exact ⟨congrArg (Value.int .i64) HW.out.2, rfl⟩
  case rest =>
    obtain ⟨rfl, rfl⟩ := hcut
    clear HW
    go_wp2_with fail
    go_loopw [6] (fun i wr => ∃ k : Nat, k ≤ n ∧ i = .int .i64 (k : Int) ∧ TwAt W wr L k false k) (fun i _ => n - (intOf i).toNat)
    case atStart => exact ⟨0, Nat.zero_le _, rfl, HT1.out⟩
    case round =>
      obtain ⟨k, hk, rfl, hT⟩ := hrel
      by_cases hlt : k < n
      · have hd1 : decide ((k : Int) < (n : Int)) = true := decide_eq_true (by omega)
        obtain ⟨N, hN, -⟩ := hT.cell
        have c0 : wr.cell? ⟨L, 0, none⟩ = some (.pointer (some ⟨N, 0, none⟩)) := hN
        obtain ⟨A2, hA2⟩ : ∃ V, wr.alloc (.cells #[.int .i64 0, .int .i64 4, .int .i64 3] 3) = V := ⟨_, rfl⟩
        have bA2 : Below wr.heap.size wr A2 := by rw [← hA2]; exact (Below.refl _ _).alloc (Nat.le_refl _) _
        have kA2 : Blk A2 wr.heap.size #[.int .i64 0, .int .i64 4, .int .i64 3] 3 := by rw [← hA2]; exact Blk.new _ _ _
        have hN2 : LkO.net A2 L N := by unfold LkO.net; rw [bA2.cell (World.block_lt_of_cell? wr _ c0)]; exact c0
        have HAP := hid (tw_Append (hT.keep bA2) (by omega) hN2 (v := .slice (some ⟨wr.heap.size, 0, none⟩) 3 3) (is_lit (es := [0, 4, 3]) kA2))
        clear hT hN bA2 kA2 hN2
        go_wp2_with fail
        refine HAP.out.mono ?_
        rintro e A3 ⟨⟨x3, rfl⟩, hs3, happ⟩
        have HAP2 := hid happ
        clear happ HAP hA2 c0
        go_wp2_with fail
        refine (law7_three _).mono ?_
        rintro e A4 ⟨nv, rfl, hn4, hnv4, b4⟩
        have HN4 := hid (And.intro hn4 (And.intro hnv4 b4))
        clear hn4 hnv4 b4
        go_wp2_with fail
        refine (law7_data k (by omega)).mono ?_
        rintro e A5 ⟨dv, rfl, o5, b5⟩
        have HA5 := hid (HAP2.out A5 nv dv (HN4.out.2.2.trans (b5.mono HN4.out.2.2.size)) (HN4.out.1.keep b5) (fun g hg => ⟨(HN4.out.2.1 g hg).1, Nat.lt_of_lt_of_le (HN4.out.2.1 g hg).2 b5.size⟩) o5.bs (fun g hg => ⟨Nat.le_trans HN4.out.2.2.size (o5.blk g hg).1, (o5.blk g hg).2⟩))
        clear o5 b5 HN4 HAP2
        go_wp2_with fail
        refine HA5.out.mono ?_
        rintro e A6 ⟨rfl, hT6⟩
        have HT6 := hid hT6
        clear hT6 HA5
        go_wp2_with fail
        refine (law7_num 0 _).mono ?_
        rintro e w9 ⟨rfl, hw9⟩
        rw [hw9]
        clear hw9 w9
        have hw9 : wrap64 ((k : Int) + 1) = (k : Int) + 1 := w64_few (by omega)
        go_wp2_with fail
        go_roundw
        case rel => exact ⟨k + 1, by omega, by go_num, HT6.out⟩
        case measure => simp [intOf]; omega
      · obtain rfl : n = k := by omega
        have hd1 : decide ((n : Int) < (n : Int)) = false := decide_eq_false (by omega)
        have HT2 := hid hT
        obtain ⟨N, hN, -⟩ := hT.cell
        have c0 : wr.cell? ⟨L, 0, none⟩ = some (.pointer (some ⟨N, 0, none⟩)) := hN
        clear hT hN HT1
        go_wp2_with fail
        refine (tw_Late HT2.out c0).mono ?_
        rintro e wd ⟨rfl, hwd⟩
        rw [hwd]
        clear hwd wd
        have hne : ((n : Int) != (n : Int)) = false := by simp
        clear c0
        go_wp2_with fail
        go_loopw [7] (fun i wr => ∃ j c : Nat, j ≤ ls.length ∧ c ≤ n ∧ i = .int .i64 (j : Int) ∧ TwAt W wr L n false c) (fun i _ => ls.length - (intOf i).toNat)
        case atStart => exact ⟨0, n, Nat.zero_le _, Nat.le_refl _, rfl, HT2.out⟩
        case round =>
          obtain ⟨j, c, hj, hc, rfl, hT⟩ := hrel
          clear HT2 hne hd1 hk hlt
          have hcase : (j < ls.length ∧ 0 < c) ∨ ¬ (j < ls.length ∧ 0 < c) := Classical.em _
          rcases hcase with ⟨hjl, hc0⟩ | hend
          · have hd1 : decide ((j : Int) < (ls.length : Int)) = true := decide_eq_true (by omega)
            have hd2 : decide ((c : Int) > 0) = true := decide_eq_true (by omega)
            have hw9 : wrap64 ((j : Int) + 1) = (j : Int) + 1 := by unfold wrap64; omega
            have HW9 := hid hw9
            clear hw9
            obtain ⟨N, hN, -⟩ := hT.cell
            have c0 : wr.cell? ⟨L, 0, none⟩ = some (.pointer (some ⟨N, 0, none⟩)) := hN
            have hdr := fun k => below_of_drewN wr.heap.size wr k
            have hNd : ∀ k, LkO.net (wr.drewN k) L N := fun k => by unfold LkO.net; rw [(hdr k).cell (World.block_lt_of_cell? wr _ c0)]; exact c0
            obtain ⟨x, hx⟩ : ∃ x, ls[j]? = some x := ⟨ls[j], by simp⟩
            obtain ⟨g9, o9, eg, hcx⟩ : ∃ g o, la = some ⟨g, o, none⟩ ∧ wr.cell? ⟨g, o + j, none⟩ = some (.int .i64 x) := by
              obtain ⟨s9, _, _, h9⟩ := hT
              obtain ⟨a, c', e, hr⟩ := HV.out.keep h9.below
              cases e
              exact hr j x hx
            subst eg
            obtain ⟨k, hkc, hx1, hx2⟩ := modc_nums x c hc0 (by omega)
            have hcne : ((c : Int) == 0) = false := beq_eq_false_iff_ne.2 (by omega)
            have HT3 := hid hT
            have HND := hid hNd
            have HXX := hid (And.intro hx1 hx2)
            clear hT hN hdr hNd hx hx1 hx2
            go_wp2_with fail
            refine (tw_Late HT3.out c0).mono ?_
            rintro e wd ⟨rfl, hwd⟩
            rw [hwd]
            clear hwd wd
            go_upto_region 16 with fail
            obtain ⟨hx1, hx2⟩ := HXX.out
            go_quiet ((go_at_call 29; exact Calls.quiet_of_same (tw_Late (HT3.out.keep (below_of_drewN _ _ _)) (HND.out _))))
            have hT4 := HT3.out.keep (below_of_drewN _ wr nq)
            have hN4 := HND.out nq
            have c4 : (wr.drewN nq).cell? ⟨L, 0, none⟩ = some (.pointer (some ⟨N, 0, none⟩)) := hN4
            clear c0 hcx hx1 hx2 hcne HND HXX hd1 hd2
            generalize wr.drewN nq = w4 at *
            have HT4 := hid hT4
            have HN4 := hid hN4
            clear hT4 hN4 HT3
            obtain ⟨b3, hb3⟩ : ∃ b, ((j : Int) % 3 == 0) = b := ⟨_, rfl⟩
            have hw9 := HW9.out
            cases b3
            · go_wp2_with fail
              refine (tw_Deliver HT4.out hkc).mono ?_
              rintro e w5 ⟨rfl, hT5⟩
              have HT5 := hid hT5
              clear hT5 HT4
              go_wp2_with fail
              go_roundw
              case rel => exact ⟨j + 1, c - 1, by omega, by omega, by go_num, HT5.out⟩
              case measure => simp [intOf]; omega
            · go_wp2_with fail
              refine (tw_Double HT4.out HN4.out hkc (by omega)).mono ?_
              rintro e w5 ⟨rfl, hT5⟩
              have HT5 := hid hT5
              clear hT5 HT4
              go_wp2_with fail
              refine (tw_Deliver HT5.out (Nat.lt_succ_of_lt hkc)).mono ?_
              rintro e w6 ⟨rfl, hT6⟩
              rw [Nat.add_sub_cancel] at hT6
              have HT6 := hid hT6
              clear hT6 HT5
              go_wp2_with fail
              go_roundw
              case rel => exact ⟨j + 1, c, by omega, hc, by go_num, HT6.out⟩
              case measure => simp [intOf]; omega
          · have HTE := hid (And.intro hc hT)
            by_cases hjl : j < ls.length
            case' pos =>
              have hd1 : decide ((j : Int) < (ls.length : Int)) = true := decide_eq_true (by omega)
              have hce : ¬ 0 < c := by omega
              obtain ⟨N, hN, -⟩ := hT.cell
              have c0 : wr.cell? ⟨L, 0, none⟩ = some (.pointer (some ⟨N, 0, none⟩)) := hN
              clear hT hN hend
              go_wp2_with fail
              refine (tw_Late HTE.out.2 c0).mono ?_
              rintro e wd ⟨rfl, hwd⟩
              rw [hwd]
              clear hwd wd
            case' neg =>
              have hd1 : decide ((j : Int) < (ls.length : Int)) = false := decide_eq_false (by omega)
              clear hT hend
            all_goals
              go_wp2_with fail
              go_loopw [9] (fun i wr => ∃ k : Nat, k ≤ n ∧ i = .int .i64 (k : Int) ∧ TwAt W wr L n false c) (fun i _ => n - (intOf i).toNat)
              case atStart => exact ⟨0, Nat.zero_le _, rfl, HTE.out.2⟩
              case round =>
                obtain ⟨k, hk, rfl, hT⟩ := hrel
                have hcn := HTE.out.1
                clear HTE hd1
                by_cases hlt : k < n
                · have hd1 : decide ((k : Int) < (n : Int)) = true := decide_eq_true (by omega)
                  have HT3 := hid hT
                  clear hT
                  go_wp2_with fail
                  refine (law7_three _).mono ?_
                  rintro e A4 ⟨nv, rfl, hn4, hnv4, b4⟩
                  have HA5 := hid (tw_Read HT3.out (by omega) hlt b4 hn4 hnv4)
                  clear hn4 hnv4 b4
                  go_wp2_with fail
                  refine HA5.out.mono ?_
                  rintro e A5 ⟨rv, rfl, hT5, bs5⟩
                  obtain ⟨ra, rc, er⟩ := bs5.form
                  subst er
                  have HT5 := hid (And.intro hT5 bs5)
                  clear hT5 bs5 HA5 HT3
                  go_upto_region 24 with fail
                  refine wp_region_invG rfl Grows (fun i v x => match i with
                      | 0 => v = .int .i64 0
                      | 1 => v = .int .i64 0
                      | 2 => v = .bool false
                      | 3 => v = .bool false
                      | 4 => v = .slice ra (dataB k).length rc
                      | 5 => v = .string ⟨(dataB k).toArray⟩
                      | 6 => v = .int .i64 (k : Int)
                      | 7 => Own8 x A5.heap.size 5 v (dataB k)
                      | 8 => v = .string ⟨(dataB k).toArray⟩
                      | 9 => v = .bool false
                      | 10 => v = .bool false
                      | _ => True) (by kernel_rfl) Grows.refl Grows.trans ?rstab ?rsteps ?rfin
                  case rstab =>
                    intro i v x y hg h
                    match i with
                    | 0 | 1 | 2 | 3 | 4 | 5 | 6 | 8 | 9 | 10 => exact h
                    | 7 => exact (h.keep ⟨hg.os, hg.tape, hg.output, hg.size, hg.block⟩)
                    | n + 11 => trivial
                  case rsteps =>
                    refine ⟨?_, ?_, ?_, ?_, ?_, ?_, ?_, ?_, ?_, ?_, ?_, trivial⟩
                    · intro a x hA
                      refine .inl ⟨rfl, ?_⟩
                      have t11 := hA.at_ 11 (by first | rfl | kernel_rfl) rfl
                      refine step_value (w' := x) (v := .int .i64 0) ?_ (Grows.refl _) ?_
                      · go_simp
                      · rfl
                    · intro a x hA
                      refine .inl ⟨rfl, ?_⟩
                      have t120 : a.tmps[120]?.getD undef = .int .i64 0 := hA.dep_ ⟨0, .data⟩ (by simp) _ 120 rfl rfl
                      refine step_call (f := 10) (args := #[.int .i64 0]) (by go_simp) ((law7_num 0 x).mono ?_)
                      rintro e w' ⟨rfl, hw⟩
                      subst hw
                      exact ⟨_, rfl, Grows.refl _, rfl⟩
                    · intro a x hA
                      refine .inl ⟨rfl, ?_⟩
                      have t121 : a.tmps[121]?.getD undef = .int .i64 0 := hA.dep_ ⟨1, .data⟩ (by simp) _ 121 rfl rfl
                      refine step_value (w' := x) (v := .bool false) ?_ (Grows.refl _) ?_
                      · go_simp
                      · rfl
                    · intro a x hA
                      refine .inl ⟨rfl, ?_⟩
                      have t122 : a.tmps[122]?.getD undef = .bool false := hA.dep_ ⟨2, .data⟩ (by simp) _ 122 rfl rfl
                      refine step_value (w' := x) (v := .bool false) ?_ (Grows.refl _) ?_
                      · go_simp
                      · rfl
                    · intro a x hA
                      have tg : a.tmps[123]?.getD undef = .bool false := hA.dep_ ⟨3, .guard⟩ (by simp) _ 123 rfl rfl
                      refine .inl ⟨by rw [wanted_of (j := 3) rfl (yielded_of (by rfl) rfl tg)]; rfl, ?_⟩
                      clear tg
                      have t10 := hA.at_ 10 (by first | rfl | kernel_rfl) rfl
                      refine step_value (w' := x) (v := .slice ra (dataB k).length rc) ?_ (Grows.refl _) ?_
                      · go_simp
                      · rfl
                    · intro a x hA
                      have tg : a.tmps[123]?.getD undef = .bool false := hA.dep_ ⟨3, .guard⟩ (by simp) _ 123 rfl rfl
                      refine .inl ⟨by rw [wanted_of (j := 3) rfl (yielded_of (by rfl) rfl tg)]; rfl, ?_⟩
                      clear tg
                      have t124 : a.tmps[124]?.getD undef = .slice ra (dataB k).length rc := hA.dep_ ⟨4, .data⟩ (by simp) _ 124 rfl rfl
                      have hcv := run_bytes_string (P := Tryz.prog) Tryz.underlying35 Tryz.underlying5 Tryz.underlying9 (HT5.out.2.keep hA.grown)
                      refine step_value (w' := x) (v := .string ⟨(dataB k).toArray⟩) ?_ (Grows.refl _) rfl
                      clear hA
                      go_simp
                    · intro a x hA
                      have tg : a.tmps[123]?.getD undef = .bool false := hA.dep_ ⟨3, .guard⟩ (by simp) _ 123 rfl rfl
                      refine .inl ⟨by rw [wanted_of (j := 3) rfl (yielded_of (by rfl) rfl tg)]; rfl, ?_⟩
                      clear tg
                      have t9 := hA.at_ 9 (by first | rfl | kernel_rfl) rfl
                      refine step_value (w' := x) (v := .int .i64 (k : Int)) ?_ (Grows.refl _) ?_
                      · go_simp
                      · rfl
                    · intro a x hA
                      have tg : a.tmps[123]?.getD undef = .bool false := hA.dep_ ⟨3, .guard⟩ (by simp) _ 123 rfl rfl
                      refine .inl ⟨by rw [wanted_of (j := 3) rfl (yielded_of (by rfl) rfl tg)]; rfl, ?_⟩
                      clear tg
                      have t126 : a.tmps[126]?.getD undef = .int .i64 (k : Int) := hA.dep_ ⟨6, .data⟩ (by simp) _ 126 rfl rfl
                      have hsz := hA.grown.size
                      refine step_call (f := 28) (args := #[.int .i64 (k : Int)]) (by clear hsz; go_simp) ((law7_data (W := x) k (by omega)).mono ?_)
                      rintro e w' ⟨v', rfl, ho, hbb⟩
                      exact ⟨_, rfl, hbb, ho.mono hsz⟩
                    · intro a x hA
                      have tg : a.tmps[123]?.getD undef = .bool false := hA.dep_ ⟨3, .guard⟩ (by simp) _ 123 rfl rfl
                      refine .inl ⟨by rw [wanted_of (j := 3) rfl (yielded_of (by rfl) rfl tg)]; rfl, ?_⟩
                      clear tg
                      have t127 : Own8 x A5.heap.size 5 (a.tmps[127]?.getD undef) (dataB k) := hA.dep_ ⟨7, .data⟩ (by simp) _ 127 rfl rfl
                      obtain ⟨a9, c9, e9⟩ := t127.form
                      rw [e9] at t127
                      have hcv := run_bytes_string (P := Tryz.prog) Tryz.underlying35 Tryz.underlying5 Tryz.underlying9 t127.bs
                      refine step_value (w' := x) (v := .string ⟨(dataB k).toArray⟩) ?_ (Grows.refl _) rfl
                      clear hA t127
                      go_simp
                    · intro a x hA
                      have tg : a.tmps[123]?.getD undef = .bool false := hA.dep_ ⟨3, .guard⟩ (by simp) _ 123 rfl rfl
                      refine .inl ⟨by rw [wanted_of (j := 3) rfl (yielded_of (by rfl) rfl tg)]; rfl, ?_⟩
                      clear tg
                      have t125 : a.tmps[125]?.getD undef = .string ⟨(dataB k).toArray⟩ := hA.dep_ ⟨5, .data⟩ (by simp) _ 125 rfl rfl
                      have t128 : a.tmps[128]?.getD undef = .string ⟨(dataB k).toArray⟩ := hA.dep_ ⟨8, .data⟩ (by simp) _ 128 rfl rfl
                      refine step_value (w' := x) (v := .bool false) ?_ (Grows.refl _) ?_
                      · go_simp
                      · rfl
                    · intro a x hA
                      refine .inl ⟨rfl, ?_⟩
                      have t123 : a.tmps[123]?.getD undef = .bool false := hA.dep_ ⟨3, .data⟩ (by simp) _ 123 rfl rfl
                      have t129 : a.tmps[129]?.getD undef = .bool false := hA.dep_ ⟨9, .data⟩ (by simp) _ 129 rfl rfl
                      refine step_value (w' := x) (v := .bool false) ?_ (Grows.refl _) ?_
                      · go_simp
                      · rfl
                  case rfin =>
                    intro y W' hg hV
                    simp only [AllVals] at hV
                    obtain ⟨-, -, -, -, -, -, -, -, -, -, e130, -⟩ := hV
                    have hb1 := grows_below hg
                    clear hg
                    simp only [putAll, Act.put, List.setIfInBounds_toArray, List.set_cons_zero, List.set_cons_succ]
                    rw [e130]
                    clear e130
                    have HT6 := hid (HT5.out.1.keep hb1)
                    clear hb1
                    have hw9 : wrap64 ((k : Int) + 1) = (k : Int) + 1 := w64_few (by omega)
                    go_wp2_with fail
                    go_roundw
                    case rel => exact ⟨k + 1, by omega, by go_num, HT6.out⟩
                    case measure => simp [intOf]; omega
                · obtain rfl : n = k := by omega
                  have hd1 : decide ((n : Int) < (n : Int)) = false := decide_eq_false (by omega)
                  have HT3 := hid hT
                  clear hT
                  go_wp2_with fail
                  refine (law7_three _).mono ?_
                  rintro e A4 ⟨nv, rfl, hn4, hnv4, b4⟩
                  have HA5 := hid (tw_Seal HT3.out (by omega) b4 hn4 hnv4)
                  clear hn4 hnv4 b4
                  go_wp2_with fail
                  refine HA5.out.mono ?_
                  rintro e A5 ⟨rfl, hT5⟩
                  have HT5 := hid hT5
                  clear hT5 HA5 HT3
                  go_wp2_with fail
                  refine (law7_num 0 _).mono ?_
                  rintro e w9 ⟨rfl, hw9⟩
                  rw [hw9]
                  clear hw9 w9
                  have heq : ((n : Int) == (n : Int)) = true := by simp
                  go_wp2_with fail
                  refine (law7_three _).mono ?_
                  rintro e A6 ⟨nv6, rfl, hn6, hnv6, b6⟩
                  have HA7 := hid (tw_Repair HT5.out (by omega) b6 hn6 hnv6)
                  clear hn6 hnv6 b6
                  go_wp2_with fail
                  refine HA7.out.mono ?_
                  rintro e A7 ⟨rfl, s7, h7a, h7b, h7⟩
                  have HB7 := hid h7.below
                  clear h7a h7b h7 HA7
                  go_wp2_with fail
                  refine (law7_num 0 _).mono ?_
                  rintro e w9 ⟨rfl, hw9⟩
                  rw [hw9]
                  clear hw9 w9
                  go_wp2_with fail
                  go_ret
                  exact ⟨rfl, HB7.out⟩
end
end Go.Proofs.YtbahjinlcbjikaaGreat
