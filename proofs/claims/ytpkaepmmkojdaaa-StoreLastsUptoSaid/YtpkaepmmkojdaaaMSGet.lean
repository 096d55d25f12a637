import Derived.Test.YtpkaepmmkojdaaaMSSeal
import Derived.Lib.UnsafeStr
import Derived.Test.YtpkaepmmkojdaaaMGetF
/-! gazettelaw04.knows: what must come, comes. -/
namespace Go.Proofs.Ytpkaepmmkojdaaa
open Go.RowKit

/-- A store that nobody else holds: all that it has lies from B on. -/
structure Run (B : Nat) (W : World) (q : StP) (S : St) (D : Dk) : Prop where
  at_ : StAt W q S D
  on : On S D
  new : ∀ b, q.all b → B ≤ b
theorem Run.keep {B : Nat} {W W' : World} {q : StP} {S : St} {D : Dk} (r : Run B W q S D) (h : Below W.heap.size W W') : Run B W' q S D := ⟨r.at_.keep h, r.on, r.new⟩
theorem Run.went {B : Nat} {W W' : World} {q q' : StP} {S S' : St} {D D' : Dk} (r : Run B W q S D) (hB : B ≤ W.heap.size) (h : StAt W' q' S' D') (hw : Went q q' W.heap.size) (ho : On S' D') : Run B W' q' S' D' :=
  ⟨h, ho, fun b hb => (hw.2.2.2.2 b hb).elim (r.new b) (fun h => by omega)⟩
theorem Run.below {B : Nat} {W W' : World} {q : StP} {S : St} {D : Dk} (r : Run B W q S D) (hB : B ≤ W.heap.size) (h : Ext q.own W W') : Below B W W' :=
  h.belowOf hB (fun b hb hc => by have := r.new b (.inl hc); omega)

section
variable {B : Nat} {W : World} {q : StP} {S : St} {D : Dk}

theorem run_Put (r : Run B W q S D) (hB : B ≤ W.heap.size) (lo po : Int) (v : Value) (l : List UInt8) (repair : Bool) (hv : Bs W v l) (hvo : ∀ g, v.ownBlock = some g → ¬ q.all g) (hl : l.length ≤ 65536)
    (l0 : 0 ≤ lo) (l1 : lo < 281474976710656) (p0 : 0 ≤ po) (p1 : po ≤ 4095) :
    Calls Try.prog 21 #[.pointer (some ⟨q.s, 0, none⟩), .int .i64 lo, .int .i64 po, v, .bool repair] W fun e w' => e = .returned (.int .i64 (putF S D lo po l repair).1) ∧ (∃ q', Run B w' q' (putF S D lo po l repair).2.1 (putF S D lo po l repair).2.2 ∧ q'.s = q.s) ∧ Below B W w' := by
  refine (store_Put r.at_ r.on lo po v l repair hv hvo hl l0 l1 p0 p1).mono ?_
  rintro e w' ⟨rfl, ⟨q', h1, h2⟩, hx⟩
  exact ⟨rfl, ⟨q', r.went hB h1 h2 (putF_on r.on lo po l repair), h2.1⟩, r.below hB hx⟩

theorem run_Seal (r : Run B W q S D) (hB : B ≤ W.heap.size) (lo : Int) (l0 : 0 ≤ lo) (l1 : lo < 281474976710656) :
    Calls Try.prog 22 #[.pointer (some ⟨q.s, 0, none⟩), .int .i64 lo] W fun e w' => e = .returned (.int .i64 (sealF S D lo).1) ∧ (∃ q', Run B w' q' (sealF S D lo).2.1 (sealF S D lo).2.2 ∧ q'.s = q.s) ∧ Below B W w' := by
  refine (store_Seal r.at_ r.on lo l0 l1).mono ?_
  rintro e w' ⟨rfl, ⟨q', h1, h2⟩, hx⟩
  exact ⟨rfl, ⟨q', r.went hB h1 h2 (sealF_on r.on lo), h2.1⟩, r.below hB hx⟩
end

theorem law_num (e : Int) (w : World) : Calls Try.prog 6 #[.int .i64 e] w fun r w' => r = .returned (.int .i64 e) ∧ w' = w := by
  go_enter Try.func6, Try.ntmps6
  go_wp2_with fail
  go_ret
  exact ⟨rfl, rfl⟩

theorem fresh_on (n : Nat) : On St.fresh (Dk.fresh n) := ⟨rfl, rfl, rfl, fun _ => rfl⟩

def K1 := putF St.fresh (Dk.fresh 8) 1 0 [97] false
def K3 := sealF K1.2.1 K1.2.2 1
def K5 := putF K3.2.1 K3.2.2 1 1 [99] true
set_option maxRecDepth 100000 in
theorem k1 : K1.1 = 0 := by kernel_rfl
set_option maxRecDepth 100000 in
theorem k2 : putF K1.2.1 K1.2.2 1 0 [98] false = (31, K1.2.1, K1.2.2) := by kernel_rfl
set_option maxRecDepth 100000 in
theorem k3 : K3.1 = 0 := by kernel_rfl
set_option maxRecDepth 100000 in
theorem k4 : putF K3.2.1 K3.2.2 1 1 [99] false = (30, K3.2.1, K3.2.2) := by kernel_rfl
set_option maxRecDepth 100000 in
theorem k5 : K5.1 = 0 := by kernel_rfl
set_option maxRecDepth 100000 in
theorem k6 : K5.2.2.texts.length - K5.2.1.fin = 5 := by kernel_rfl
set_option maxRecDepth 100000 in
theorem k7 : max (K5.2.1.get 1).1 (K5.2.1.get 1).2.1 = 2 := by kernel_rfl


theorem lit_bs {W W' : World} (x : Int) (u : UInt8) (hx : x = (u.toNat : Int)) (h : (W.alloc (.cells #[.int .u8 x] 5)).freeze ⟨W.heap.size, 1, none⟩ 1 = W') : Bs W' (.slice (some ⟨W.heap.size, 0, none⟩) 1 1) [u] := by
  rw [← h]
  refine Bs.mk rfl (Nat.le_refl _) (by simp [maxLen]) (fun i y hi => ?_)
  match i, hi with
  | 0, hi =>
    simp at hi
    subst hi
    have hb := Blk.new W #[.int .u8 x] 5
    unfold Blk at hb
    generalize W.alloc (.cells #[.int .u8 x] 5) = V at hb ⊢
    generalize W.heap.size = g at hb ⊢
    simp [World.cell?, World.freeze, Array.getElem?_modify, hb, hx]
theorem lit_below {W W' : World} {x : Int} (h : (W.alloc (.cells #[.int .u8 x] 5)).freeze ⟨W.heap.size, 1, none⟩ 1 = W') : Below W.heap.size W W' := by
  rw [← h]
  exact Lib.below_freeze ((Below.refl _ W).alloc (Nat.le_refl _) _) (Nat.le_refl _) 1
theorem lit_conv {W W' : World} {x : Int} (h : (W.alloc (.cells #[.int .u8 x] 5)).freeze ⟨W.heap.size, 1, none⟩ 1 = W') : (convert 40 40 (.slice (some ⟨W.heap.size, 0, none⟩) 1 1)).run Try.prog (W.alloc (.cells #[.int .u8 x] 5)) = .ok (.slice (some ⟨W.heap.size, 0, none⟩) 1 1) W' := by
  have hb := Blk.new W #[.int .u8 x] 5
  unfold Blk at hb
  rw [← h]
  clear h
  generalize W.alloc (.cells #[.int .u8 x] 5) = V at hb ⊢
  generalize W.heap.size = g at hb ⊢
  simp [convert, run_underlying Try.underlying40, run_underlying Try.underlying5, Sem.run_bind, markStringish, World.shape?, hb]
theorem lit_out {B : Nat} {W : World} {q : StP} {S : St} {D : Dk} (r : Run B W q S D) : ∀ g, (Value.slice (some ⟨W.heap.size, 0, none⟩) 1 1).ownBlock = some g → ¬ q.all g := by
  intro g hg hq
  simp only [Value.ownBlock, Option.some.injEq] at hg
  have := r.at_.size hq
  omega

set_option maxRecDepth 100000 in
set_option maxHeartbeats 1600000 in
theorem law_knows (W : World) : Calls Try.prog 7 #[] W fun e w' => e = .returned (.bool true) ∧ Below W.heap.size W w' := by
  go_enter Try.func7, Try.ntmps7
  go_wp2_with fail
  refine (disk_New 8 W (by omega) (by omega)).mono ?_
  rintro e W1 ⟨p, rfl, hD, b1, hp⟩
  go_wp2_with fail
  refine (store_Open_fresh 8 hD).mono ?_
  rintro e W2 ⟨q, rfl, hS, b2, hqp, hq1, hq2, hq3, hqU⟩
  have b12 : Below W.heap.size W W2 := b1.trans (b2.mono b1.size)
  have r : Run W.heap.size W2 q St.fresh (Dk.fresh 8) := ⟨hS, fresh_on 8, fun b hb => by
    have h1 := b1.size
    rcases hb with (hb | hb | hb | hb) | hb | hb
    · omega
    · omega
    · omega
    · rw [hqp] at hb; exact hp b (.inl hb)
    · rw [hqU] at hb; exact hb.elim
    · rw [hqp] at hb; exact hp b (.inr hb)⟩
  clear hS hD b1 b2 hp hqp hq1 hq2 hq3 hqU
  go_wp2_with fail
  refine (law_num _ _).mono ?_
  rintro e W2' ⟨rfl, h2⟩
  subst h2
  go_wp2_with fail
  refine (law_num _ _).mono ?_
  rintro e W2' ⟨rfl, h2⟩
  subst h2
  obtain ⟨W3, hW3⟩ : ∃ W3, (W2'.alloc (.cells #[.int .u8 97] 5)).freeze ⟨W2'.heap.size, 1, none⟩ 1 = W3 := ⟨_, rfl⟩
  have bl : Below W2'.heap.size W2' W3 := lit_below hW3
  have hcvhW3 := lit_conv hW3
  have r3 := r.keep bl
  have hP := run_Put r3 (Nat.le_trans b12.size bl.size) 1 0 _ [97] false (lit_bs 97 97 rfl hW3) (lit_out r) (by simp) (by omega) (by omega) (by omega) (by omega)
  rw [show (putF St.fresh (Dk.fresh 8) 1 0 [97] false).1 = 0 from k1] at hP
  have b13 := b12.trans (bl.mono b12.size)
  have HP := hid hP
  clear hP r r3 b12 bl hW3
  go_wp2_with fail
  refine HP.out.mono ?_
  rintro e W4 ⟨rfl, ⟨q4, r4, hq4⟩, b4⟩
  clear HP hcvhW3
  have b14 := b13.trans b4
  clear b13 b4
  -- the same slot, other data
  obtain ⟨V5, hV5⟩ : ∃ V5, (W4.alloc (.cells #[.int .u8 98] 5)).freeze ⟨W4.heap.size, 1, none⟩ 1 = V5 := ⟨_, rfl⟩
  have bl5 : Below W4.heap.size W4 V5 := lit_below hV5
  have hcvhV5 := lit_conv hV5
  have r5 := r4.keep bl5
  have b15 := b14.trans (bl5.mono b14.size)
  have hP5 := run_Put r5 b15.size 1 0 _ [98] false (lit_bs 98 98 rfl hV5) (lit_out r4) (by simp) (by omega) (by omega) (by omega) (by omega)
  rw [show putF (putF St.fresh (Dk.fresh 8) 1 0 [97] false).2.1 (putF St.fresh (Dk.fresh 8) 1 0 [97] false).2.2 1 0 [98] false = (31, K1.2.1, K1.2.2) from k2, hq4] at hP5
  have HP5 := hid hP5
  clear hV5 hP5 r5 bl5 r4 b14 hq4
  go_wp2_with fail
  refine HP5.out.mono ?_
  rintro e W6 ⟨rfl, ⟨q6, r6, hq6⟩, b6⟩
  clear HP5 hcvhV5
  have b16 := b15.trans b6
  clear b15 b6
  -- sealed
  have hP7 := run_Seal r6 b16.size 1 (by omega) (by omega)
  rw [show (sealF K1.2.1 K1.2.2 1).1 = 0 from k3, hq6] at hP7
  have HP7 := hid hP7
  clear hP7 r6 hq6
  go_wp2_with fail
  refine HP7.out.mono ?_
  rintro e W7 ⟨rfl, ⟨q7, r7, hq7⟩, b7⟩
  clear HP7
  have b17 := b16.trans b7
  clear b16 b7
  -- behind the seal
  obtain ⟨V8, hV8⟩ : ∃ V8, (W7.alloc (.cells #[.int .u8 99] 5)).freeze ⟨W7.heap.size, 1, none⟩ 1 = V8 := ⟨_, rfl⟩
  have bl8 : Below W7.heap.size W7 V8 := lit_below hV8
  have hcvhV8 := lit_conv hV8
  have r8 := r7.keep bl8
  have b18 := b17.trans (bl8.mono b17.size)
  have hP8 := run_Put r8 b18.size 1 1 _ [99] false (lit_bs 99 99 rfl hV8) (lit_out r7) (by simp) (by omega) (by omega) (by omega) (by omega)
  rw [show putF (sealF K1.2.1 K1.2.2 1).2.1 (sealF K1.2.1 K1.2.2 1).2.2 1 1 [99] false = (30, K3.2.1, K3.2.2) from k4, hq7] at hP8
  have HP8 := hid hP8
  clear hV8 hP8 r8 bl8 r7 b17 hq7
  go_wp2_with fail
  refine HP8.out.mono ?_
  rintro e W9 ⟨rfl, ⟨q9, r9, hq9⟩, b9⟩
  clear HP8 hcvhV8
  have b19 := b18.trans b9
  clear b18 b9
  -- repaired
  obtain ⟨V10, hV10⟩ : ∃ V10, (W9.alloc (.cells #[.int .u8 99] 5)).freeze ⟨W9.heap.size, 1, none⟩ 1 = V10 := ⟨_, rfl⟩
  have bl10 : Below W9.heap.size W9 V10 := lit_below hV10
  have hcvhV10 := lit_conv hV10
  have r10 := r9.keep bl10
  have b20 := b19.trans (bl10.mono b19.size)
  have hP10 := run_Put r10 b20.size 1 1 _ [99] true (lit_bs 99 99 rfl hV10) (lit_out r9) (by simp) (by omega) (by omega) (by omega) (by omega)
  rw [show (putF K3.2.1 K3.2.2 1 1 [99] true).1 = 0 from k5, hq9] at hP10
  have HP10 := hid hP10
  clear hV10 hP10 r10 bl10 r9 b19 hq9
  go_wp2_with fail
  refine HP10.out.mono ?_
  rintro e W11 ⟨rfl, ⟨q11, r11, hq11⟩, b11⟩
  clear HP10 hcvhV10
  have b21 := b20.trans b11
  clear b20 b11
  have r12 : Run W.heap.size W11 q11 K5.2.1 K5.2.2 := r11
  have hk6 := k6
  have hk7 := k7
  clear r11
  generalize K5.2.1 = S5 at r12 hk6 hk7
  generalize K5.2.2 = D5 at r12 hk6
  have hF := store_Free r12.at_
  rw [hk6, hq11] at hF
  have hTl : ∀ W', StAt W' q11 S5 D5 → Calls Try.prog 24 #[.pointer (some ⟨q.s, 0, none⟩), .int .i64 1] W' fun e w' => e = .returned (.int .i64 2) ∧ Below W'.heap.size W' w' := fun W' h => by
    have := store_Tail h 1
    rw [hk7, hq11] at this
    exact this
  have HF := hid (And.intro hF (And.intro r12 (And.intro hTl b21)))
  clear hF r12 hTl b21 hk6 hk7 hq11
  go_wp2_with fail
  refine (law_num _ _).mono ?_
  rintro e W12 ⟨rfl, h12⟩
  subst h12
  go_wp2_with fail
  refine (law_num _ _).mono ?_
  rintro e W12 ⟨rfl, h12⟩
  subst h12
  go_wp2_with fail
  refine (law_num _ _).mono ?_
  rintro e W12 ⟨rfl, h12⟩
  subst h12
  go_wp2_with fail
  refine (law_num _ _).mono ?_
  rintro e W12 ⟨rfl, h12⟩
  subst h12
  go_wp2_with fail
  refine (law_num _ _).mono ?_
  rintro e W12 ⟨rfl, h12⟩
  subst h12
  go_wp2_with fail
  refine HF.out.1.mono ?_
  rintro e W13 ⟨rfl, b13⟩
  have hT := HF.out.2.2.1 W13 (HF.out.2.1.at_.keep b13)
  have HT := hid hT
  clear hT
  go_wp2_with fail
  refine HT.out.mono ?_
  rintro e W14 ⟨rfl, b14⟩
  go_wp2_with fail
  go_ret
  exact ⟨rfl, (HF.out.2.2.2.trans (b13.mono HF.out.2.2.2.size)).trans (b14.mono (Nat.le_trans HF.out.2.2.2.size b13.size))⟩

end Go.Proofs.Ytpkaepmmkojdaaa

/-! Package store, on: Trim, Sealed. -/
namespace Go.Proofs.Ytpkaepmmkojdaaa
open Go.RowKit

section
variable {W : World} {q : StP} {S S1 : St} {D : Dk}

set_option maxRecDepth 100000 in
set_option maxHeartbeats 1600000 in
theorem store_Trim (h : StAt W q S D) (hon : On S D) (lo po : Int) (l0 : 0 ≤ lo) (l1 : lo < 281474976710656) (p0 : 0 ≤ po) (p1 : po ≤ 4096) :
    Calls Try.prog 29 #[.pointer (some ⟨q.s, 0, none⟩), .int .i64 lo, .int .i64 po] W fun e w' => e = .returned (.int .i64 (trimF S D lo po).1) ∧ (∃ q', StAt w' q' (trimF S D lo po).2.1 (trimF S D lo po).2.2 ∧ Went q q' W.heap.size) ∧ Ext q.own W w' := by
  have hmay := store_may h lo po 4096
  rw [if_pos ⟨l0, l1, p0, p1⟩] at hmay
  go_enter Try.func29, Try.ntmps29
  go_wp2_with fail
  refine hmay.mono ?_
  rintro e W1 ⟨rfl, b1⟩
  have h1 := h.keep b1
  clear hmay
  go_wp2_with fail
  refine (store_down h1).mono ?_
  rintro e W2 ⟨rfl, b2⟩
  rw [hon.fallen, hon.off]
  have h2 := h1.keep b2
  have hb2 := b1.trans (b2.mono b1.size)
  have c2 := h2.cell.cell (o := 2) rfl
  have hlk := store_lookup h2 lo
  clear h1 b1 b2
  obtain ⟨tl, tr, sl, hget, k1, k2, k3, k4⟩ := S.get_form h lo
  rw [hget] at hlk
  simp only [stV] at hlk
  have Hget := hid hget
  clear hget
  simp only [Bool.or_self]
  have hfld : (Instr.field 93 (.agg #[.int .i64 tl, .int .i64 tr, .bool sl]) 1).run Try.prog W2 = .ok (.int .i64 tr) W2 := by kernel_rfl
  have hwr := hid (store_write_trim h2 hon lo po l0 l1 p0 (by omega))
  have Hb := hid (And.intro h2 hb2)
  clear h2 hb2
  by_cases hp : po ≤ tr
  · have HF := hid (show trimF S D lo po = (0, S, D) by unfold trimF; rw [Hget.out, if_pos hp])
    go_wp2_with fail
    go_ret
    rw [HF.out]
    exact ⟨rfl, ⟨q, Hb.out.1, Went.refl _ _⟩, Ext.ofBelow Hb.out.2⟩
  · have HF := hid (show trimF S D lo po = writeF S (applyTrim S lo po) D 3 lo po [] by unfold trimF; rw [Hget.out, if_neg hp])
    have hp2 : tr < po := by omega
    go_wp2_with fail
    refine hwr.out.mono ?_
    rintro e w' hpost
    obtain ⟨rfl, ⟨q', a1, a2⟩, a3⟩ := hpost
    go_wp2_with fail
    go_ret
    rw [HF.out]
    exact ⟨rfl, ⟨q', a1, a2.le Hb.out.2.size⟩, (Ext.ofBelow Hb.out.2 : Ext q.own W _).trans' a3⟩

set_option maxRecDepth 100000 in
set_option maxHeartbeats 1600000 in
theorem store_Sealed (h : StAt W q S D) (lo : Int) :
    Calls Try.prog 30 #[.pointer (some ⟨q.s, 0, none⟩), .int .i64 lo] W fun e w' => e = .returned (.bool (S.get lo).2.2) ∧ Below W.heap.size W w' := by
  go_enter Try.func30, Try.ntmps30
  go_wp2_with fail
  refine (store_state h lo).mono ?_
  rintro e W1 ⟨rfl, b1⟩
  obtain ⟨tl, tr, sl, hget, k1, k2, k3, k4⟩ := S.get_form h lo
  rw [hget]
  simp only [stV]
  have Hget := hid hget
  clear hget
  have hfld : (Instr.field 93 (.agg #[.int .i64 tl, .int .i64 tr, .bool sl]) 2).run Try.prog W1 = .ok (.bool sl) W1 := by kernel_rfl
  go_wp2_with fail
  go_ret
  rw [Hget.out]
  exact ⟨rfl, b1⟩

end
end Go.Proofs.Ytpkaepmmkojdaaa

/-! Package store, on: Trimmed; Trim of a store that nobody else holds. -/
namespace Go.Proofs.Ytpkaepmmkojdaaa
open Go.RowKit

section
variable {W : World} {q : StP} {S S1 : St} {D : Dk}

set_option maxRecDepth 100000 in
set_option maxHeartbeats 1600000 in
theorem store_Trimmed (h : StAt W q S D) (lo : Int) :
    Calls Try.prog 31 #[.pointer (some ⟨q.s, 0, none⟩), .int .i64 lo] W fun e w' => e = .returned (.int .i64 (S.get lo).2.1) ∧ Below W.heap.size W w' := by
  go_enter Try.func31, Try.ntmps31
  go_wp2_with fail
  refine (store_state h lo).mono ?_
  rintro e W1 ⟨rfl, b1⟩
  obtain ⟨tl, tr, sl, hget, k1, k2, k3, k4⟩ := S.get_form h lo
  rw [hget]
  simp only [stV]
  have Hget := hid hget
  clear hget
  have hfld : (Instr.field 93 (.agg #[.int .i64 tl, .int .i64 tr, .bool sl]) 1).run Try.prog W1 = .ok (.int .i64 tr) W1 := by kernel_rfl
  go_wp2_with fail
  go_ret
  rw [Hget.out]
  exact ⟨rfl, b1⟩

end

section
variable {B : Nat} {W : World} {q : StP} {S : St} {D : Dk}
theorem run_Trim (r : Run B W q S D) (hB : B ≤ W.heap.size) (lo po : Int) (l0 : 0 ≤ lo) (l1 : lo < 281474976710656) (p0 : 0 ≤ po) (p1 : po ≤ 4096) :
    Calls Try.prog 29 #[.pointer (some ⟨q.s, 0, none⟩), .int .i64 lo, .int .i64 po] W fun e w' => e = .returned (.int .i64 (trimF S D lo po).1) ∧ (∃ q', Run B w' q' (trimF S D lo po).2.1 (trimF S D lo po).2.2 ∧ q'.s = q.s) ∧ Below B W w' := by
  refine (store_Trim r.at_ r.on lo po l0 l1 p0 p1).mono ?_
  rintro e w' ⟨rfl, ⟨q', h1, h2⟩, hx⟩
  exact ⟨rfl, ⟨q', r.went hB h1 h2 (trimF_on r.on lo po), h2.1⟩, r.below hB hx⟩
end

end Go.Proofs.Ytpkaepmmkojdaaa
