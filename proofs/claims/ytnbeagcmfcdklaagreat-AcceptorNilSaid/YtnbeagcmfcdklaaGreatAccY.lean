import Derived.Test.YtnbeagcmfcdklaaGreatMSortedNil
import Derived.Test.YtnbeagcmfcdklaaGreatMOpenB
/-! Package acceptor: open on a fresh disk, New. -/
namespace Go.Proofs.YtnbeagcmfcdklaaGreat
open Go.RowKit

set_option maxRecDepth 100000 in
set_option maxHeartbeats 3200000 in
theorem acc_open_fresh {W : World} {p : DkP} (k n : Nat) (hD : DkAt W p (Dk.fresh k)) (hn : Blk W n #[.pointer (some ⟨p.d, 0, none⟩), .pointer none, .map none] 75) (hnp : ¬ p.all n) :
    Calls Tryz.prog 51 #[.pointer (some ⟨n, 0, none⟩)] W fun e w' => e = .returned (.int .i64 0) ∧ ∃ q mf, AccAt w' n mf (.pointer (some ⟨p.d, 0, none⟩)) q [] St.fresh (Dk.fresh k) ∧ Ext (fun b => b = n) W w' ∧ W.heap.size ≤ mf ∧ ∀ b, q.all b → W.heap.size ≤ b ∨ p.all b := by
  have hps : ∀ b, p.all b → b < W.heap.size := fun b hb => hD.lt hb
  have hnl := hn.lt
  have c0 := hn.cell (o := 0) rfl
  have hmm := @run_makeMap Tryz.prog
  go_enter Tryz.func51, Tryz.ntmps51
  go_wp2_with fail
  refine (store_Open_fresh k hD).mono ?_
  rintro e W2 ⟨q, rfl, hS, b2, hqp, hqa, hqb, hqc, hqU⟩
  have hn2 := hn.keep b2
  have hs2 := b2.size
  have hqall : ∀ b, q.all b → (W.heap.size ≤ b ∨ p.all b) ∧ b ≠ n := by
    intro b hb
    rcases hb with (hb | hb | hb | hb) | hb | hb
    · exact ⟨.inl (by omega), by omega⟩
    · exact ⟨.inl (by omega), by omega⟩
    · exact ⟨.inl (by omega), by omega⟩
    · rw [hqp] at hb
      exact ⟨.inr (.inl hb), fun e => hnp (e ▸ .inl hb)⟩
    · rw [hqU] at hb; exact hb.elim
    · rw [hqp] at hb
      exact ⟨.inr (.inr hb), fun e => hnp (e ▸ .inr hb)⟩
  have hqs : ∀ b, q.all b → b < W2.heap.size := fun b hb => hS.size hb
  obtain ⟨W3, hW3⟩ : ∃ W3, W2.alloc (.map #[] 0) = W3 := ⟨_, rfl⟩
  have b3 : Below W2.heap.size W2 W3 := by rw [← hW3]; exact (Below.refl _ W2).alloc (Nat.le_refl _) _
  have hm3 : MapAt W3 W2.heap.size encS ([] : List (Ent (Int × Int))) 0 := by rw [← hW3]; exact MapAt.new W2 encS
  have hn3 := hn2.keep b3
  have f1 := hn3.free 1
  have f2 := hn3.free 2
  have y1 := hn3.cell (o := 1) rfl
  have y2 := hn3.cell (o := 2) rfl
  obtain ⟨W4, hW4⟩ : ∃ W4, (W3.setCell ⟨n, 1, none⟩ (.pointer (some ⟨q.s, 0, none⟩))).setCell ⟨n, 2, none⟩ (.map (some W2.heap.size)) = W4 := ⟨_, rfl⟩
  have hn4 := (hn3.set (o := 1) (.pointer (some ⟨q.s, 0, none⟩))).set (o := 2) (.map (some W2.heap.size))
  rw [hW4] at hn4
  simp only [List.setIfInBounds_toArray, List.set_cons_zero, List.set_cons_succ] at hn4
  have x4 : Ext (fun b => b = n) W3 W4 := by rw [← hW4]; exact ((Ext.refl (fun b => b = n) W3).setCell (.inl rfl) _).setCell (.inl rfl) _
  have a4 : AccAt W4 n W2.heap.size (.pointer (some ⟨p.d, 0, none⟩)) q [] St.fresh (Dk.fresh k) :=
    ⟨hn4, (hS.keep b3).ext x4 (fun b e hb => (hqall b hb).2 e), ⟨rfl, rfl, rfl, fun _ => rfl⟩, ⟨[], 0, hm3.ext x4 (by omega), rfl⟩, fun e he => by simp at he, fun hc => (hqall _ hc).2 rfl, fun hc => by have := hqs _ hc; omega, by omega⟩
  have xx : Ext (fun b => b = n) W W4 := ((Ext.ofBelow b2 : Ext (fun b => b = n) W W2).then b3).trans' x4
  have HL := hid (store_Loglets_none a4.st (fun _ => rfl))
  have HA := hid (And.intro a4 (And.intro xx (And.intro hs2 hqall)))
  clear hS b2 b3 hqa hqb hqc hqU hqall hqs hm3 hn4 x4 a4 xx hn2 hn3
  go_wp2_with fail
  refine HL.out.mono ?_
  rintro e W5 ⟨rfl, b5⟩
  have HB := hid b5
  clear b5 hW3 hW4 c0 f1 f2 y1 y2 hmm HL
  go_wp2_with fail
  go_loopw [31] (fun i wr => i = .int .i64 0 ∧ wr = W5) (fun _ _ => 0)
  case atStart => exact ⟨rfl, rfl⟩
  case round =>
    obtain ⟨rfl, rfl⟩ := hrel
    go_wp2_with fail
    go_ret
    obtain ⟨a4, xx, hs2, hqall⟩ := HA.out
    exact ⟨rfl, q, W2.heap.size, a4.keep HB.out, xx.then HB.out, hs2, fun b hb => (hqall b hb).1⟩

set_option maxRecDepth 100000 in
set_option maxHeartbeats 1600000 in
theorem acc_New (k : Nat) (W : World) (h1 : 1 ≤ k) (h2 : k ≤ 4096) :
    Calls Tryz.prog 24 #[.int .i64 (k : Int)] W fun e w' => ∃ n mf pv q, e = .returned (.tuple #[.pointer (some ⟨n, 0, none⟩), .int .i64 0]) ∧ AccAt w' n mf pv q [] St.fresh (Dk.fresh k) ∧ Below W.heap.size W w' ∧ W.heap.size ≤ n ∧ W.heap.size ≤ mf ∧ (∀ b, q.all b → W.heap.size ≤ b) := by
  go_enter Tryz.func24, Tryz.ntmps24
  go_wp2_with fail
  refine (disk_New k W h1 h2).mono ?_
  rintro e W1 ⟨p, rfl, hD, b1, hp⟩
  have hN := Blk.new W1 #[.pointer (some ⟨p.d, 0, none⟩), .pointer none, .map none] 75
  have b2 : Below W1.heap.size W1 (W1.alloc (.cells #[.pointer (some ⟨p.d, 0, none⟩), .pointer none, .map none] 75)) := (Below.refl _ W1).alloc (Nat.le_refl _) _
  have hps : ∀ b, p.all b → b < W1.heap.size := fun b hb => hD.lt hb
  have hO := hid (acc_open_fresh k W1.heap.size (hD.keep b2) hN (fun hc => by have := hps _ hc; omega))
  have HD := hid (And.intro b2 hps)
  clear hD hN b2 hps
  go_wp2_with fail
  refine hO.out.mono ?_
  rintro e W2 ⟨rfl, q, mf, a2, x2, hmf, hqa⟩
  have HA := hid (And.intro a2 (And.intro x2 (And.intro hmf hqa)))
  clear a2 x2 hmf hqa hO
  go_wp2_with fail
  go_ret2
  obtain ⟨a2, x2, hmf, hqa⟩ := HA.out
  obtain ⟨b2, hps⟩ := HD.out
  have hs1 := b1.size
  have hs2 := b2.size
  have hb : Below W.heap.size W W2 := (b1.trans (b2.mono b1.size)).trans (x2.belowOf (Nat.le_trans b1.size b2.size) (fun b hb e => by have e2 : b = W1.heap.size := e; omega))
  refine ⟨W1.heap.size, mf, _, q, rfl, a2, hb, hs1, by omega, fun b hb => ?_⟩
  rcases hqa b hb with h9 | h9
  · omega
  · exact hp b h9
end Go.Proofs.YtnbeagcmfcdklaaGreat
