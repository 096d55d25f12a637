import Derived.Test.YtnbeagcmfcdklaaGreatMRead
import Derived.Test.YtnbeagcmfcdklaaGreatEntry
import Derived.BigQuiet
/-! Package store: what lies in memory; the walks of the small functions. -/
namespace Go.Proofs.YtnbeagcmfcdklaaGreat
open Go.RowKit

/-- A store: slots, loglets' states (tail, trim, sealed), its end, its entries' number. -/
structure St where
  slots : Int × Int → Option (List UInt8)
  states : Int → Option (Int × Int × Bool)
  fin : Nat
  num : Nat
  fallen : Bool

/-- Where it lies; U: the blocks of its slots' data. -/
structure StP where
  s : Nat
  ms : Nat
  mt : Nat
  p : DkP
  U : Nat → Prop

def StP.own (q : StP) (b : Nat) : Prop := b = q.s ∨ b = q.ms ∨ b = q.mt ∨ q.p.own b
def StP.all (q : StP) (b : Nat) : Prop := q.own b ∨ q.U b ∨ q.p.V b

def DatAt (W : World) (U : Nat → Prop) (v : Value) (l : List UInt8) : Prop := Bs W v l ∧ ∀ g, v.ownBlock = some g → U g

structure StAt (W : World) (q : StP) (S : St) (D : Dk) : Prop where
  cell : Blk W q.s #[.pointer (some ⟨q.p.d, 0, none⟩), .map (some q.ms), .map (some q.mt), .int .i64 (S.fin : Int), .int .i64 (S.num : Int), .bool S.fallen] 174
  disk : DkAt W q.p D
  slots : ∃ es c, MapAt W q.ms encS es c ∧ (∀ k, (S.slots k).isSome = mhas es k) ∧ ∀ e ∈ es, ∃ l, S.slots e.k = some l ∧ DatAt W q.U e.v l ∧ l.length ≤ 65536
  states : ∃ es c, MapAt W q.mt encI es c ∧ (∀ k, (S.states k).isSome = mhas es k) ∧ ∀ e ∈ es, ∃ tl tr sl, S.states e.k = some (tl, tr, sl) ∧ e.v = .agg #[.int .i64 tl, .int .i64 tr, .bool sl] ∧ 0 ≤ tl ∧ tl ≤ 281474976710656 ∧ 0 ≤ tr ∧ tr ≤ 281474976710656
  ne : q.s ≠ q.ms ∧ q.s ≠ q.mt ∧ q.ms ≠ q.mt ∧ ¬ q.p.all q.s ∧ ¬ q.p.all q.ms ∧ ¬ q.p.all q.mt
  data : ∀ b, q.U b → ¬ (b = q.s ∨ b = q.ms ∨ b = q.mt) ∧ ¬ q.p.all b
  lt : ∀ b, q.U b → b < W.heap.size
  bound : S.fin ≤ D.texts.length ∧ S.num ≤ S.fin

theorem DatAt.ext {fp : Nat → Prop} {W W' : World} {U : Nat → Prop} {v : Value} {l : List UInt8} (h : DatAt W U v l) (he : Ext fp W W') (hn : ∀ b, fp b → ¬ U b) : DatAt W' U v l :=
  ⟨h.1.ext he (fun g hg _ hf => hn g hf (h.2 g hg)), h.2⟩

theorem StAt.ext {fp : Nat → Prop} {W W' : World} {q : StP} {S : St} {D : Dk} (h : StAt W q S D) (he : Ext fp W W') (hn : ∀ b, fp b → ¬ q.all b) : StAt W' q S D where
  cell := h.cell.ext he (fun hf => hn _ hf (.inl (.inl rfl)))
  disk := h.disk.extAll he (fun b hf hp => hn b hf (by
    rcases hp with hp | hp
    · exact .inl (.inr (.inr (.inr hp)))
    · exact .inr (.inr hp)))
  slots := by
    obtain ⟨es, c, hm, hr, hv⟩ := h.slots
    refine ⟨es, c, hm.ext he (fun hf => hn _ hf (.inl (.inr (.inl rfl)))), hr, fun e hm => ?_⟩
    obtain ⟨l, q1, q2, q3⟩ := hv e hm
    exact ⟨l, q1, q2.ext he (fun b hf hu => hn b hf (.inr (.inl hu))), q3⟩
  states := by obtain ⟨es, c, hm, hr⟩ := h.states; exact ⟨es, c, hm.ext he (fun hf => hn _ hf (.inl (.inr (.inr (.inl rfl))))), hr⟩
  ne := h.ne
  data := h.data
  lt := fun b hb => Nat.lt_of_lt_of_le (h.lt b hb) he.size
  bound := h.bound
theorem StAt.keep {W W' : World} {q : StP} {S : St} {D : Dk} (h : StAt W q S D) (hb : Below W.heap.size W W') : StAt W' q S D := h.ext (fp := nofp) (Ext.ofBelow hb) (fun _ h => h.elim)
theorem StAt.size {W : World} {q : StP} {S : St} {D : Dk} (h : StAt W q S D) {b : Nat} (hb : q.all b) : b < W.heap.size := by
  rcases hb with (rfl | rfl | rfl | hb) | hb | hb
  · exact h.cell.lt
  · obtain ⟨_, _, hm, _⟩ := h.slots; exact hm.lt
  · obtain ⟨_, _, hm, _⟩ := h.states; exact hm.lt
  · exact h.disk.lt (.inl hb)
  · exact h.lt b hb
  · exact h.disk.lt (.inr hb)

section
variable {W : World} {q : StP} {S : St} {D : Dk}

set_option maxHeartbeats 800000 in
theorem store_none (h : StAt W q S D) : Calls Tryz.prog 107 #[.pointer (some ⟨q.s, 0, none⟩)] W fun e w' => e = .returned (.bool false) ∧ w' = W := by
  have c0 := h.cell.cell (o := 0) rfl
  go_enter Tryz.func107, Tryz.ntmps107
  go_wp2_with fail
  go_ret
  exact ⟨rfl, rfl⟩

set_option maxHeartbeats 800000 in
theorem store_Free (h : StAt W q S D) : Calls Tryz.prog 151 #[.pointer (some ⟨q.s, 0, none⟩)] W fun e w' => e = .returned (.int .i64 ((D.texts.length - S.fin : Nat) : Int)) ∧ Below W.heap.size W w' := by
  have c0 := h.cell.cell (o := 0) rfl
  have c3 := h.cell.cell (o := 3) rfl
  have hb := h.bound.1
  have hsub : ((D.texts.length : Int) - (S.fin : Int)) = ((D.texts.length - S.fin : Nat) : Int) := by omega
  have hmost := h.disk.most
  go_enter Tryz.func151, Tryz.ntmps151
  go_wp2_with fail
  refine (store_none h).mono ?_
  rintro e W1 ⟨rfl, rfl⟩
  go_wp2_with fail
  go_quiet ((go_at_call 99; exact Calls.quiet_of_same (disk_Blocks (h.disk.keep (below_of_drewN _ _ _)))))
  go_wp2_with fail
  go_ret
  exact ⟨rfl, below_of_drewN _ _ _⟩

set_option maxHeartbeats 800000 in
theorem store_down (h : StAt W q S D) : Calls Tryz.prog 141 #[.pointer (some ⟨q.s, 0, none⟩)] W fun e w' => e = .returned (.bool (S.fallen || D.off)) ∧ Below W.heap.size W w' := by
  have c0 := h.cell.cell (o := 0) rfl
  have c5 := h.cell.cell (o := 5) rfl
  go_enter Tryz.func141, Tryz.ntmps141
  cases hf : S.fallen
  · rw [hf] at c5
    go_wp2_with fail
    refine (disk_Down h.disk).mono ?_
    rintro e W1 ⟨rfl, rfl⟩
    go_wp2_with fail
    go_ret
    exact ⟨rfl, Below.refl _ _⟩
  · rw [hf] at c5
    go_wp2_with fail
    go_ret
    exact ⟨rfl, Below.refl _ _⟩

set_option maxHeartbeats 800000 in
theorem store_may (h : StAt W q S D) (lo po mo : Int) : Calls Tryz.prog 110 #[.pointer (some ⟨q.s, 0, none⟩), .int .i64 lo, .int .i64 po, .int .i64 mo] W fun e w' => e = .returned (.int .i64 (if 0 ≤ lo ∧ lo < 281474976710656 ∧ 0 ≤ po ∧ po ≤ mo then 0 else 1)) ∧ Below W.heap.size W w' := by
  go_enter Tryz.func110, Tryz.ntmps110
  go_wp2_with fail
  refine (store_none h).mono ?_
  rintro e W1 ⟨rfl, rfl⟩
  by_cases h1 : lo < 0
  · have hd1 : decide (lo < 0) = true := by simpa using h1
    go_wp2_with fail
    go_ret
    exact ⟨rfl, Below.refl _ _⟩
  have hd1 : decide (lo < 0) = false := by simpa using h1
  by_cases h2 : lo ≥ 281474976710656
  · have hd2 : decide (lo ≥ 281474976710656) = true := by simpa using h2
    go_wp2_with fail
    go_ret
    exact ⟨rfl, Below.refl _ _⟩
  have hd2 : decide (lo ≥ 281474976710656) = false := by simpa using h2
  by_cases h3 : po < 0
  · have hd3 : decide (po < 0) = true := by simpa using h3
    go_wp2_with fail
    go_ret
    exact ⟨rfl, Below.refl _ _⟩
  have hd3 : decide (po < 0) = false := by simpa using h3
  by_cases h4 : po > mo
  · have hd4 : decide (po > mo) = true := by simpa using h4
    go_wp2_with fail
    go_ret
    exact ⟨rfl, Below.refl _ _⟩
  have hd4 : decide (po > mo) = false := by simpa using h4
  go_wp2_with fail
  go_ret
  exact ⟨rfl, Below.refl _ _⟩
end

end Go.Proofs.YtnbeagcmfcdklaaGreat
