import Derived.Test.YtcdcjoofcbdilaaGreatAccX
import Derived.Test.YtcdcjoofcbdilaaGreatMWire
import Derived.Test.YtcdcjoofcbdilaaGreatMOpenB
/-! slices.Sort, slices.Sorted over the keys of a map without entries. -/
namespace Go.Proofs.YtcdcjoofcbdilaaGreat
open Go.RowKit

set_option maxRecDepth 100000 in
set_option maxHeartbeats 1600000 in
theorem insertion_nil (W : World) : Calls Tryz.prog 193 #[.slice none 0 0, .int .i64 0, .int .i64 0] W fun e w' => (∃ v, e = .returned v) ∧ w' = W := by
  go_enter Tryz.func193, Tryz.ntmps193
  go_wp2_with fail
  go_loopw [6] (fun i wr => i = .int .i64 1 ∧ wr = W) (fun _ _ => 0)
  case atStart => exact ⟨rfl, rfl⟩
  case round =>
    obtain ⟨rfl, rfl⟩ := hrel
    go_wp2_with fail
    go_end0
    exact ⟨⟨_, rfl⟩, rfl⟩

set_option maxRecDepth 100000 in
set_option maxHeartbeats 1600000 in
theorem pdq_nil (W : World) (n : Int) : Calls Tryz.prog 181 #[.slice none 0 0, .int .i64 0, .int .i64 0, .int .i64 n] W fun e w' => (∃ v, e = .returned v) ∧ w' = W := by
  go_enter Tryz.func181, Tryz.ntmps181
  go_wp2_with fail
  go_loopw [1, 2] (fun i j wr => i = .int .i64 0 ∧ j = .int .i64 0 ∧ wr = W) (fun _ _ _ => 0)
  case atStart => exact ⟨rfl, rfl, rfl⟩
  case round =>
    obtain ⟨rfl, rfl, rfl⟩ := hrel
    go_wp2_with fail
    refine (insertion_nil wr).mono ?_
    rintro e w' ⟨⟨v, rfl⟩, rfl⟩
    go_wp2_with fail
    refine bodyPost_ret (results_none rfl _ _ _) rfl ?_
    exact ⟨⟨_, rfl⟩, rfl⟩
set_option maxRecDepth 100000 in
set_option maxHeartbeats 1600000 in
theorem len64_zero (W : World) : Calls Tryz.prog 203 #[.int .u64 0] W fun e w' => (∃ n, e = .returned (.int .i64 n)) ∧ w' = W := by
  go_enter Tryz.func203, Tryz.ntmps203
  go_wp2_with fail
  go_ret
  exact ⟨⟨_, rfl⟩, rfl⟩
set_option maxRecDepth 100000 in
set_option maxHeartbeats 1600000 in
theorem len_zero (W : World) : Calls Tryz.prog 182 #[.int .u64 0] W fun e w' => (∃ n, e = .returned (.int .i64 n)) ∧ w' = W := by
  go_enter Tryz.func182, Tryz.ntmps182
  go_wp2_with fail
  refine (len64_zero W).mono ?_
  rintro e w' ⟨⟨n, rfl⟩, rfl⟩
  go_wp2_with fail
  go_ret
  exact ⟨⟨_, rfl⟩, rfl⟩
set_option maxRecDepth 100000 in
set_option maxHeartbeats 1600000 in
theorem sort_nil (W : World) : Calls Tryz.prog 151 #[.slice none 0 0] W fun e w' => (∃ v, e = .returned v) ∧ w' = W := by
  go_enter Tryz.func151, Tryz.ntmps151
  go_wp2_with fail
  refine (len_zero W).mono ?_
  rintro e w' ⟨⟨n, rfl⟩, rfl⟩
  go_wp2_with fail
  refine (pdq_nil _ n).mono ?_
  rintro e w' ⟨⟨v, rfl⟩, rfl⟩
  go_wp2_with fail
  go_end0
  exact ⟨⟨_, rfl⟩, rfl⟩

/-- The keys of a map without entries. -/
theorem keys_iter (g mt c : Nat) (M : Nat) (w : World) (Y : Nat → World → Array Value → Prop) (fp : Nat → Prop) (hg : Blk w g #[.map (some mt)] 233) (hm : MapAt w mt encI ([] : List (Ent Int)) c) (hM : w.heap.size + 1 ≤ M) :
    Iter Tryz.prog 177 #[.pointer (some ⟨g, 0, none⟩)] 0 Y fp M w := by
  intro n l0 J Jx hJ hJx hR h0
  have c0 := hg.cell (o := 0) rfl
  obtain ⟨hrg, hit⟩ := run_range_raw (P := Tryz.prog) hm Tryz.underlying233
  obtain ⟨W1, hW1⟩ : ∃ W1, w.alloc (.mapIter (some mt) c #[] c) = W1 := ⟨_, rfl⟩
  rw [hW1] at hrg hit
  have b1 : Below w.heap.size w W1 := by rw [← hW1]; exact (Below.refl _ w).alloc (Nat.le_refl _) _
  have hsz : W1.heap.size = w.heap.size + 1 := by rw [← hW1]; simp
  have hJ1 := hid (hJ 0 w W1 h0 ⟨b1.os, b1.tape, b1.output, b1.size, fun k hk _ => b1.block k hk⟩)
  have hr := run_next_raw (P := Tryz.prog) (hm.keep b1) hit (fun e he => by simp at he) (.inr (.inl rfl)) 0
  have hr : (Instr.next (.pointer (some ⟨w.heap.size, 0, none⟩)) false 0).run Tryz.prog W1 = .ok (.tuple #[.bool false]) W1 := by
    rcases hr with h | ⟨e, he, _⟩
    · exact h.2
    · simp at he
  clear hm hg hit hJ hJx hR h0 b1
  refine callsIn_of_wp Tryz.func177 rfl trivial ?_ rfl
  simp only [Tryz.ntmps177, List.size_toArray, List.length_cons, List.length_nil, Nat.reduceAdd, Nat.reduceSub, Array.replicate_succ, Array.replicate_zero, List.push_toArray, List.append_toArray, List.nil_append, List.cons_append]
  gi_wp2
  gi_loopw [3] (fun _ wr => wr = W1) (fun _ _ => 0)
  case atStart => rfl
  case round =>
    subst hrel
    gi_wp2
    go_end0
    exact ⟨⟨_, rfl⟩, .inl hJ1.out⟩
end Go.Proofs.YtcdcjoofcbdilaaGreat

/-! slices.Sorted(maps.Keys(m)) where m has no entries; Loglets of a fresh store. -/
namespace Go.Proofs.YtcdcjoofcbdilaaGreat
open Go.RowKit
attribute [local go_sem] Oper.semAt_some

set_option maxRecDepth 100000 in
set_option maxHeartbeats 1600000 in
theorem append_none (g mt c : Nat) (W : World) (hg : Blk W g #[.map (some mt)] 233) (hm : MapAt W mt encI ([] : List (Ent Int)) c) :
    Calls Tryz.prog 180 #[.slice none 0 0, .func (.func 177) #[] #[.pointer (some ⟨g, 0, none⟩)]] W fun e w' => e = .returned (.slice none 0 0) ∧ Below W.heap.size W w' := by
  obtain ⟨W1, hW1⟩ : ∃ W1, W.alloc (.cells #[.slice none 0 0] 34) = W1 := ⟨_, rfl⟩
  have b1 : Below W.heap.size W W1 := by rw [← hW1]; exact (Below.refl _ W).alloc (Nat.le_refl _) _
  have k1 : Blk W1 W.heap.size #[.slice none 0 0] 34 := by rw [← hW1]; exact Blk.new W _ _
  have s1 := k1.lt
  have hg1 := hg.keep b1
  have hm1 := hm.keep b1
  have hsb := b1.size
  have HW1 := hid hW1
  clear hg hm
  refine callsIn_wide.1 (callsIn_of_wp_marks (n := 0) Tryz.func180 rfl trivial ?_)
  simp only [Tryz.ntmps180, List.size_toArray, List.length_cons, List.length_nil, Nat.reduceAdd, Nat.reduceSub, Array.replicate_succ, Array.replicate_zero, List.push_toArray, List.append_toArray, List.nil_append, List.cons_append]
  gi_wp2
  refine wpIn_rangeQ (gf := 177) (lb := #[.pointer (some ⟨g, 0, none⟩)]) ?g ?eg (N := 0) (Y := fun _ _ args => args.size = 1) (fp := fun _ => False) (M := W1.heap.size + 3) ?hM ?hit
    (fun _ A => Below W.heap.size W A ∧ Blk A W.heap.size #[.slice none 0 0] 34) (fun _ _ _ => False) ?hI ?hIx ?hY ?hYs ?hfp ?h0 #[5] ?hassign ?hbody ?hdone ?hstop
  all_goals (try clear hW1)
  case g => rfl
  case eg => intro args w; rfl
  case hM => omega
  case hit =>
    intro W7 hbW hsW
    exact keys_iter g mt c _ W7 _ _ (hg1.keep hbW) (hm1.keep hbW) (by omega)
  case hI =>
    rintro k A B ⟨h1, h2⟩ he
    exact ⟨h1.trans (he.belowOf h1.size (fun b hb hc => by omega)), h2.ext he (by omega)⟩
  case hIx =>
    rintro c k A B hf _
    exact hf
  case hY =>
    rintro k A B args h _
    exact h
  case hYs =>
    rintro k A args h
    exact h
  case hfp =>
    rintro b h
    exact h.elim
  case h0 => exact ⟨b1, k1⟩
  case hassign =>
    intro m args W K hs hK
    obtain ⟨v, rfl⟩ : ∃ v, args = #[v] := by
      match args, hs with
      | ⟨[v]⟩, _ => exact ⟨v, rfl⟩
    rw [rangeAct_one] at hK
    simp only [List.setIfInBounds_toArray, List.set_cons_zero, List.set_cons_succ] at hK
    clear hg1 hm1 s1 hsb k1 b1
    gi_wp2
    exact hK
  case hstop =>
    intro c k W hf _
    exact hf.elim
  case hbody =>
    intro m k W args hk
    omega
  case hdone =>
    rintro A ⟨hb, hk⟩ hd
    have c0 := hk.cell (o := 0) rfl
    gi_wp2
    exact ⟨by simp, .inl ⟨_, _, rfl, run_takeDeferred hd, _, results_tmp rfl _ _ _, rfl, hb.trans ((ext_putObj _ _ _).belowOf hb.size (fun b hb hc => by omega))⟩⟩

set_option maxRecDepth 100000 in
set_option maxHeartbeats 1600000 in
theorem collect_none (g mt c : Nat) (W : World) (hg : Blk W g #[.map (some mt)] 233) (hm : MapAt W mt encI ([] : List (Ent Int)) c) :
    Calls Tryz.prog 150 #[.func (.func 177) #[] #[.pointer (some ⟨g, 0, none⟩)]] W fun e w' => e = .returned (.slice none 0 0) ∧ Below W.heap.size W w' := by
  go_enter Tryz.func150, Tryz.ntmps150
  go_wp2_with fail
  refine (append_none g mt c W hg hm).mono ?_
  rintro e w' ⟨rfl, hb⟩
  go_wp2_with fail
  go_ret
  exact ⟨rfl, hb⟩
set_option maxRecDepth 100000 in
set_option maxHeartbeats 1600000 in
theorem sorted_none (g mt c : Nat) (W : World) (hg : Blk W g #[.map (some mt)] 233) (hm : MapAt W mt encI ([] : List (Ent Int)) c) :
    Calls Tryz.prog 113 #[.func (.func 177) #[] #[.pointer (some ⟨g, 0, none⟩)]] W fun e w' => e = .returned (.slice none 0 0) ∧ Below W.heap.size W w' := by
  go_enter Tryz.func113, Tryz.ntmps113
  go_wp2_with fail
  refine (collect_none g mt c W hg hm).mono ?_
  rintro e w1 ⟨rfl, hb⟩
  go_wp2_with fail
  refine (sort_nil w1).mono ?_
  rintro e w' ⟨⟨v, rfl⟩, rfl⟩
  go_wp2_with fail
  go_ret
  exact ⟨rfl, hb⟩
set_option maxRecDepth 100000 in
set_option maxHeartbeats 1600000 in
theorem keys_call (mt : Nat) (W : World) :
    Calls Tryz.prog 142 #[.map (some mt)] W fun e w' => e = .returned (.func (.func 177) #[] #[.pointer (some ⟨W.heap.size, 0, none⟩)]) ∧ w' = W.alloc (.cells #[.map (some mt)] 233) := by
  go_enter Tryz.func142, Tryz.ntmps142
  go_wp2_with fail
  go_ret
  exact ⟨rfl, rfl⟩

section
variable {W : World} {q : StP} {S : St} {D : Dk}
set_option maxRecDepth 100000 in
set_option maxHeartbeats 1600000 in
theorem store_Loglets_none (h : StAt W q S D) (hno : ∀ k, S.states k = none) :
    Calls Tryz.prog 91 #[.pointer (some ⟨q.s, 0, none⟩)] W fun e w' => e = .returned (.slice none 0 0) ∧ Below W.heap.size W w' := by
  obtain ⟨es, c, hm, hhas, _⟩ := h.states
  have hes : es = [] := by
    cases es with
    | nil => rfl
    | cons e es =>
      have := hhas e.k
      rw [hno] at this
      simp [mhas] at this
  subst hes
  have c2 := h.cell.cell (o := 2) rfl
  have hnone := store_none h
  go_enter Tryz.func91, Tryz.ntmps91
  go_wp2_with fail
  refine hnone.mono ?_
  rintro e W1 ⟨rfl, h2⟩
  subst h2
  go_wp2_with fail
  refine (keys_call q.mt W1).mono ?_
  rintro e W2 ⟨rfl, h2⟩
  have b2 : Below W1.heap.size W1 W2 := by rw [h2]; exact (Below.refl _ W1).alloc (Nat.le_refl _) _
  have k2 : Blk W2 W1.heap.size #[.map (some q.mt)] 233 := by rw [h2]; exact Blk.new W1 _ _
  have hm2 := hm.keep b2
  clear h2
  go_wp2_with fail
  refine (sorted_none W1.heap.size q.mt c W2 k2 hm2).mono ?_
  rintro e W3 ⟨rfl, b3⟩
  go_wp2_with fail
  go_ret
  exact ⟨rfl, b2.trans (b3.mono b2.size)⟩
end
end Go.Proofs.YtcdcjoofcbdilaaGreat

/-! Package acceptor: open on a fresh disk, New. -/
namespace Go.Proofs.YtcdcjoofcbdilaaGreat
open Go.RowKit

set_option maxRecDepth 100000 in
set_option maxHeartbeats 3200000 in
theorem acc_open_fresh {W : World} {p : DkP} (k n : Nat) (hD : DkAt W p (Dk.fresh k)) (hn : Blk W n #[.pointer (some ⟨p.d, 0, none⟩), .pointer none, .map none] 95) (hnp : ¬ p.all n) :
    Calls Tryz.prog 52 #[.pointer (some ⟨n, 0, none⟩)] W fun e w' => e = .returned (.int .i64 0) ∧ ∃ q mf, AccAt w' n mf (.pointer (some ⟨p.d, 0, none⟩)) q [] St.fresh (Dk.fresh k) ∧ Ext (fun b => b = n) W w' ∧ W.heap.size ≤ mf ∧ ∀ b, q.all b → W.heap.size ≤ b ∨ p.all b := by
  have hps : ∀ b, p.all b → b < W.heap.size := fun b hb => hD.lt hb
  have hnl := hn.lt
  have c0 := hn.cell (o := 0) rfl
  have hmm := @run_makeMap Tryz.prog
  go_enter Tryz.func52, Tryz.ntmps52
  go_wp2_with fail
  refine (store_Open_fresh k hD).mono ?_
  rintro e W2 ⟨q, rfl, hS, b2, hqp, hqa, hqb, hqc, hqU⟩
  have hn2 := hn.keep b2
  have hs2 := b2.size
  have hqall : ∀ b, q.all b → (W.heap.size ≤ b ∨ p.all b) ∧ b ≠ n := by
    intro b hb
    rcases hb with (hb | hb | hb | hb) | hb | hb
    · exact ⟨.inl (by omega), by omega⟩
    · exact ⟨.inl (by omega), by omega⟩
    · exact ⟨.inl (by omega), by omega⟩
    · rw [hqp] at hb
      exact ⟨.inr (.inl hb), fun e => hnp (e ▸ .inl hb)⟩
    · rw [hqU] at hb; exact hb.elim
    · rw [hqp] at hb
      exact ⟨.inr (.inr hb), fun e => hnp (e ▸ .inr hb)⟩
  have hqs : ∀ b, q.all b → b < W2.heap.size := fun b hb => hS.size hb
  obtain ⟨W3, hW3⟩ : ∃ W3, W2.alloc (.map #[] 0) = W3 := ⟨_, rfl⟩
  have b3 : Below W2.heap.size W2 W3 := by rw [← hW3]; exact (Below.refl _ W2).alloc (Nat.le_refl _) _
  have hm3 : MapAt W3 W2.heap.size encS ([] : List (Ent (Int × Int))) 0 := by rw [← hW3]; exact MapAt.new W2 encS
  have hn3 := hn2.keep b3
  have f1 := hn3.free 1
  have f2 := hn3.free 2
  have y1 := hn3.cell (o := 1) rfl
  have y2 := hn3.cell (o := 2) rfl
  obtain ⟨W4, hW4⟩ : ∃ W4, (W3.setCell ⟨n, 1, none⟩ (.pointer (some ⟨q.s, 0, none⟩))).setCell ⟨n, 2, none⟩ (.map (some W2.heap.size)) = W4 := ⟨_, rfl⟩
  have hn4 := (hn3.set (o := 1) (.pointer (some ⟨q.s, 0, none⟩))).set (o := 2) (.map (some W2.heap.size))
  rw [hW4] at hn4
  simp only [List.setIfInBounds_toArray, List.set_cons_zero, List.set_cons_succ] at hn4
  have x4 : Ext (fun b => b = n) W3 W4 := by rw [← hW4]; exact ((Ext.refl (fun b => b = n) W3).setCell (.inl rfl) _).setCell (.inl rfl) _
  have a4 : AccAt W4 n W2.heap.size (.pointer (some ⟨p.d, 0, none⟩)) q [] St.fresh (Dk.fresh k) :=
    ⟨hn4, (hS.keep b3).ext x4 (fun b e hb => (hqall b hb).2 e), ⟨rfl, rfl, rfl, fun _ => rfl⟩, ⟨[], 0, hm3.ext x4 (by omega), rfl⟩, fun e he => by simp at he, fun hc => (hqall _ hc).2 rfl, fun hc => by have := hqs _ hc; omega, by omega⟩
  have xx : Ext (fun b => b = n) W W4 := ((Ext.ofBelow b2 : Ext (fun b => b = n) W W2).then b3).trans' x4
  have HL := hid (store_Loglets_none a4.st (fun _ => rfl))
  have HA := hid (And.intro a4 (And.intro xx (And.intro hs2 hqall)))
  clear hS b2 b3 hqa hqb hqc hqU hqall hqs hm3 hn4 x4 a4 xx hn2 hn3
  go_wp2_with fail
  refine HL.out.mono ?_
  rintro e W5 ⟨rfl, b5⟩
  have HB := hid b5
  clear b5 hW3 hW4 c0 f1 f2 y1 y2 hmm HL
  go_wp2_with fail
  go_loopw [31] (fun i wr => i = .int .i64 0 ∧ wr = W5) (fun _ _ => 0)
  case atStart => exact ⟨rfl, rfl⟩
  case round =>
    obtain ⟨rfl, rfl⟩ := hrel
    go_wp2_with fail
    go_ret
    obtain ⟨a4, xx, hs2, hqall⟩ := HA.out
    exact ⟨rfl, q, W2.heap.size, a4.keep HB.out, xx.then HB.out, hs2, fun b hb => (hqall b hb).1⟩

set_option maxRecDepth 100000 in
set_option maxHeartbeats 1600000 in
theorem acc_New_d (k : Nat) (W : World) (h1 : 1 ≤ k) (h2 : k ≤ 4096) :
    Calls Tryz.prog 23 #[.int .i64 (k : Int)] W fun e w' => ∃ n mf dk q, e = .returned (.tuple #[.pointer (some ⟨n, 0, none⟩), .int .i64 0]) ∧ AccAt w' n mf (.pointer (some ⟨dk, 0, none⟩)) q [] St.fresh (Dk.fresh k) ∧ Below W.heap.size W w' ∧ W.heap.size ≤ n ∧ W.heap.size ≤ mf ∧ (∀ b, q.all b → W.heap.size ≤ b) := by
  go_enter Tryz.func23, Tryz.ntmps23
  go_wp2_with fail
  refine (disk_New k W h1 h2).mono ?_
  rintro e W1 ⟨p, rfl, hD, b1, hp⟩
  have hN := Blk.new W1 #[.pointer (some ⟨p.d, 0, none⟩), .pointer none, .map none] 95
  have b2 : Below W1.heap.size W1 (W1.alloc (.cells #[.pointer (some ⟨p.d, 0, none⟩), .pointer none, .map none] 95)) := (Below.refl _ W1).alloc (Nat.le_refl _) _
  have hps : ∀ b, p.all b → b < W1.heap.size := fun b hb => hD.lt hb
  have hO := hid (acc_open_fresh k W1.heap.size (hD.keep b2) hN (fun hc => by have := hps _ hc; omega))
  have HD := hid (And.intro b2 hps)
  clear hD hN b2 hps
  go_wp2_with fail
  refine hO.out.mono ?_
  rintro e W2 ⟨rfl, q, mf, a2, x2, hmf, hqa⟩
  have HA := hid (And.intro a2 (And.intro x2 (And.intro hmf hqa)))
  clear a2 x2 hmf hqa hO
  go_wp2_with fail
  go_ret2
  obtain ⟨a2, x2, hmf, hqa⟩ := HA.out
  obtain ⟨b2, hps⟩ := HD.out
  have hs1 := b1.size
  have hs2 := b2.size
  have hb : Below W.heap.size W W2 := (b1.trans (b2.mono b1.size)).trans (x2.belowOf (Nat.le_trans b1.size b2.size) (fun b hb e => by have e2 : b = W1.heap.size := e; omega))
  refine ⟨W1.heap.size, mf, _, q, rfl, a2, hb, hs1, by omega, fun b hb => ?_⟩
  rcases hqa b hb with h9 | h9
  · omega
  · exact hp b h9
theorem acc_New (k : Nat) (W : World) (h1 : 1 ≤ k) (h2 : k ≤ 4096) :
    Calls Tryz.prog 23 #[.int .i64 (k : Int)] W fun e w' => ∃ n mf pv q, e = .returned (.tuple #[.pointer (some ⟨n, 0, none⟩), .int .i64 0]) ∧ AccAt w' n mf pv q [] St.fresh (Dk.fresh k) ∧ Below W.heap.size W w' ∧ W.heap.size ≤ n ∧ W.heap.size ≤ mf ∧ (∀ b, q.all b → W.heap.size ≤ b) := by
  refine (acc_New_d k W h1 h2).mono ?_
  rintro e w' ⟨n, mf, dk, q, h⟩
  exact ⟨n, mf, _, q, h⟩
end Go.Proofs.YtcdcjoofcbdilaaGreat
