import Derived.Test.YtnbeagcmfcdklaaGreatLAcc
import Derived.Test.YtnbeagcmfcdklaaGreatBase
import Derived.Test.YtnbeagcmfcdklaaGreatSlices
import Derived.Lib.ConvBytes
/-! gazettelaw08.knows: the plain law. -/
namespace Go.Proofs.YtnbeagcmfcdklaaGreat
open Go.RowKit

def K1 := askA [] St.fresh (Dk.fresh 20) (frameB 3 (askB 1 0 1 5 []))
def K2 := askA K1.2.1 K1.2.2.1 K1.2.2.2 (frameB 3 (askB 2 0 1 4 [97]))
def K3 := askA K2.2.1 K2.2.2.1 K2.2.2.2 (frameB 3 (askB 2 0 1 5 [97]))
def K4 := askA K3.2.1 K3.2.2.1 K3.2.2.2 (frameB 3 (askB 4 0 0 0 []))
set_option maxRecDepth 100000 in
theorem k1_told : getAns K1.1 = some (0, 1, 5, 0, false, []) := by kernel_rfl
set_option maxRecDepth 100000 in
theorem k2_told : getAns K2.1 = some (34, 1, 5, 0, false, []) := by kernel_rfl
set_option maxRecDepth 100000 in
theorem k3_told : getAns K3.1 = some (0, 1, 5, 5, false, [97]) := by kernel_rfl
set_option maxRecDepth 100000 in
theorem k4_told : getAns K4.1 = some (0, 1, 5, 5, false, [97]) := by kernel_rfl
theorem askA_len (F : Fs) (S : St) (D : Dk) (b : List UInt8) : (askA F S D b).1.length ≤ 1073741824 := by
  unfold askA
  split
  · have := putAnsB_length 22 0 0 0 false []
    simp only
    omega
  · have := fun e ver pr ba le l => putAnsB_length e ver pr ba le l
    simp only
    refine Nat.le_trans (this _ _ _ _ _ _) (by omega)
end Go.Proofs.YtnbeagcmfcdklaaGreat

/-! '[]byte("x")' of one byte, as the text has it: a literal slice that is converted. -/
namespace Go.Proofs.YtnbeagcmfcdklaaGreat
open Go.RowKit

theorem litA_bs {W W' : World} (x : Int) (u : UInt8) (hx : x = (u.toNat : Int)) (h : (W.alloc (.cells #[.int .u8 x] 5)).freeze ⟨W.heap.size, 1, none⟩ 1 = W') : Bs W' (.slice (some ⟨W.heap.size, 0, none⟩) 1 1) [u] := by
  rw [← h]
  refine Bs.mk rfl (Nat.le_refl _) (by simp [maxLen]) (fun i y hi => ?_)
  match i, hi with
  | 0, hi =>
    simp at hi
    subst hi
    have hb := Blk.new W #[.int .u8 x] 5
    unfold Blk at hb
    generalize W.alloc (.cells #[.int .u8 x] 5) = V at hb ⊢
    generalize W.heap.size = g at hb ⊢
    simp [World.cell?, World.freeze, Array.getElem?_modify, hb, hx]
theorem litA_below {W W' : World} {x : Int} (h : (W.alloc (.cells #[.int .u8 x] 5)).freeze ⟨W.heap.size, 1, none⟩ 1 = W') : Below W.heap.size W W' := by
  rw [← h]
  exact Lib.below_freeze ((Below.refl _ W).alloc (Nat.le_refl _) _) (Nat.le_refl _) 1
theorem litA_conv {W W' : World} {x : Int} (h : (W.alloc (.cells #[.int .u8 x] 5)).freeze ⟨W.heap.size, 1, none⟩ 1 = W') : (convert 22 22 (.slice (some ⟨W.heap.size, 0, none⟩) 1 1)).run Tryz.prog (W.alloc (.cells #[.int .u8 x] 5)) = .ok (.slice (some ⟨W.heap.size, 0, none⟩) 1 1) W' := by
  have hb := Blk.new W #[.int .u8 x] 5
  unfold Blk at hb
  rw [← h]
  clear h
  generalize W.alloc (.cells #[.int .u8 x] 5) = V at hb ⊢
  generalize W.heap.size = g at hb ⊢
  simp [convert, run_underlying Tryz.underlying22, run_underlying Tryz.underlying5, Sem.run_bind, markStringish, World.shape?, hb]
end Go.Proofs.YtnbeagcmfcdklaaGreat

/-! gazettelaw08.knows. -/
namespace Go.Proofs.YtnbeagcmfcdklaaGreat
open Go.RowKit

/-- An acceptor that nobody else holds. -/
structure ARun (B : Nat) (W : World) (n mf : Nat) (pv : Value) (q : StP) (F : Fs) (S : St) (D : Dk) : Prop where
  at_ : AccAt W n mf pv q F S D
  new : ∀ b, q.all b → B ≤ b
  nmf : B ≤ mf
section
variable {B n mf : Nat} {W W' : World} {pv : Value} {q : StP} {F : Fs} {S : St} {D : Dk}
theorem ARun.keep (r : ARun B W n mf pv q F S D) (h : Below W.heap.size W W') : ARun B W' n mf pv q F S D := ⟨r.at_.keep h, r.new, r.nmf⟩
theorem run_asked (r : ARun B W n mf pv q F S D) (hB : B ≤ W.heap.size) (k key ver bal : Int) (v : Value) (m : List UInt8) (hv : BsW W v m) (hok : askOk k key ver bal m.length = true) {A : List UInt8 × Fs × St × Dk} (hA : askA F S D (frameB 3 (askB k key ver bal m)) = A)
    {er vr pr ba : Nat} {le : Bool} {d : List UInt8} (hg : getAns A.1 = some (er, vr, pr, ba, le, d)) :
    Calls Tryz.prog 26 #[.pointer (some ⟨n, 0, none⟩), .agg #[.int .i64 k, .int .i64 key, .int .i64 ver, .int .i64 bal, v]] W fun e w' => ∃ a c, e = .returned (.tuple #[.agg #[.int .i64 (er : Int), .int .i64 (vr : Int), .int .i64 (pr : Int), .int .i64 (ba : Int), .bool le, .slice a d.length c], .bool true]) ∧ Bs w' (.slice a d.length c) d ∧ (∃ q', ARun B w' n mf pv q' A.2.1 A.2.2.1 A.2.2.2 ∧ ∀ T c t, Blk W T c t → T ≠ mf → ¬ q.all T → Blk w' T c t ∧ ¬ q'.all T) ∧ Below B W w' := by
  have hlen := askA_len F S D (frameB 3 (askB k key ver bal m))
  refine (law8_asked r.at_ k key ver bal v m hv hok hlen).mono ?_
  rw [hA]
  rintro e w' ⟨ht, ⟨q', h1, h2⟩, hx⟩
  unfold ToldPost at ht
  rw [hg] at ht
  obtain ⟨v', rfl, hbs, ho⟩ := ht
  obtain ⟨a, c, rfl⟩ := hbs.form
  refine ⟨a, c, rfl, hbs, ⟨q', ⟨h1, fun c hc => (h2.2.2.2.2 c hc).elim (r.new c) (fun h => by omega), r.nmf⟩, fun T c t hb hm hq => ⟨hb.ext hx (fun h => h.elim hm (fun h => hq (.inl h))), fun h => (h2.2.2.2.2 T h).elim hq (fun h => by have := hb.lt; omega)⟩⟩, hx.belowOf hB (fun c hc ho => ?_)⟩
  rcases ho with ho | ho
  · have := r.nmf; omega
  · have := r.new c (.inl ho); omega
end

set_option maxRecDepth 100000 in
set_option maxHeartbeats 3200000 in
theorem law8_knows (W : World) : Calls Tryz.prog 23 #[] W fun e w' => e = .returned (.bool true) ∧ Below W.heap.size W w' := by
  go_enter Tryz.func23, Tryz.ntmps23
  go_wp2_with fail
  refine (acc_New 20 W (by omega) (by omega)).mono ?_
  rintro e W0 ⟨n, mf, pv, q0, rfl, h0, b0, hn, hmf, hnew⟩
  have r0 : ARun W.heap.size W0 n mf pv q0 [] St.fresh (Dk.fresh 20) := ⟨h0, hnew, hmf⟩
  clear h0 hnew hn hmf
  go_wp2_with fail
  refine (law8_num _ _).mono ?_
  rintro e Wx ⟨rfl, hw⟩
  subst hw
  have hC0 := hid (run_asked r0 b0.size 1 0 1 5 (.slice none 0 0) [] (.inl (Bs.nil _)) (by decide) (A := K1) rfl k1_told)
  have HR0 := hid r0
  have HB0 := hid b0
  clear r0 b0
  go_wp2_with fail
  refine hC0.out.mono ?_
  intro e Wa0 hp
  obtain ⟨a0, c0, rfl, bs0, ⟨q1, rq0, kp0⟩, ba0⟩ := (show ∃ a c, e = .returned (.tuple #[.agg #[.int .i64 0, .int .i64 1, .int .i64 5, .int .i64 0, .bool false, .slice a 0 c], .bool true]) ∧ Bs Wa0 (.slice a 0 c) [] ∧ (∃ q', ARun W.heap.size Wa0 n mf pv q' K1.2.1 K1.2.2.1 K1.2.2.2 ∧ ∀ T c t, Blk Wx T c t → T ≠ mf → ¬ q0.all T → Blk Wa0 T c t ∧ ¬ q'.all T) ∧ Below W.heap.size Wx Wa0 from hp)
  clear hp hC0
  have bt0 := HB0.out.trans ba0
  have by0 : Below Wa0.heap.size Wa0 (Wa0.alloc (.cells #[.int .i64 0, .int .i64 1, .int .i64 5, .int .i64 0, .bool false, .slice a0 0 c0] 36)) := (Below.refl _ Wa0).alloc (Nat.le_refl _) _
  have t0 := Blk.new Wa0 #[.int .i64 0, .int .i64 1, .int .i64 5, .int .i64 0, .bool false, .slice a0 0 c0] 36
  have nt0 : ¬ q1.all Wa0.heap.size := fun hc => by have := rq0.at_.st.size hc; omega
  have mt0 : Wa0.heap.size ≠ mf := by have := rq0.at_.mlt; omega
  have rr0 := rq0.keep by0
  have be0 := bt0.trans (by0.mono bt0.size)
  have be0' := bs0.keep by0
  clear bt0 by0 rq0 ba0 bs0 kp0 HR0 HB0
  obtain ⟨Wn0, hWn0⟩ : ∃ V, Wa0.alloc (.cells #[.int .i64 0, .int .i64 1, .int .i64 5, .int .i64 0, .bool false, .slice a0 0 c0] 36) = V := ⟨_, rfl⟩
  rw [hWn0] at rr0 be0 be0' t0
  have hHW0 := hid be0'
  clear be0'
  obtain ⟨V1, hV1⟩ : ∃ V, (Wn0.alloc (.cells #[.int .u8 97] 5)).freeze ⟨Wn0.heap.size, 1, none⟩ 1 = V := ⟨_, rfl⟩
  have bl1 : Below Wn0.heap.size Wn0 V1 := litA_below hV1
  have hcv1 := litA_conv hV1
  have rl1 := rr0.keep bl1
  have bb1 := be0.trans (bl1.mono be0.size)
  have t0 := t0.keep bl1
  have hC1 := hid (run_asked rl1 bb1.size 2 0 1 4 (.slice (some ⟨Wn0.heap.size, 0, none⟩) 1 1) [97] (.inl (litA_bs 97 97 rfl hV1)) (by decide) (A := K2) rfl k2_told)
  clear hV1 bl1 rr0 be0
  have HR1 := hid rl1
  have HB1 := hid bb1
  clear rl1 bb1
  have Ht0 := hid t0
  clear t0
  go_wp2_with fail
  refine hC1.out.mono ?_
  intro e Wa1 hp
  obtain ⟨a1, c1, rfl, bs1, ⟨q2, rq1, kp1⟩, ba1⟩ := (show ∃ a c, e = .returned (.tuple #[.agg #[.int .i64 34, .int .i64 1, .int .i64 5, .int .i64 0, .bool false, .slice a 0 c], .bool true]) ∧ Bs Wa1 (.slice a 0 c) [] ∧ (∃ q', ARun W.heap.size Wa1 n mf pv q' K2.2.1 K2.2.2.1 K2.2.2.2 ∧ ∀ T c t, Blk V1 T c t → T ≠ mf → ¬ q1.all T → Blk Wa1 T c t ∧ ¬ q'.all T) ∧ Below W.heap.size V1 Wa1 from hp)
  clear hp hC1
  obtain ⟨t0, nt0⟩ := kp1 _ _ _ Ht0.out mt0 nt0
  clear Ht0
  have bt1 := HB1.out.trans ba1
  have by1 : Below Wa1.heap.size Wa1 (Wa1.alloc (.cells #[.int .i64 34, .int .i64 1, .int .i64 5, .int .i64 0, .bool false, .slice a1 0 c1] 36)) := (Below.refl _ Wa1).alloc (Nat.le_refl _) _
  have t1 := Blk.new Wa1 #[.int .i64 34, .int .i64 1, .int .i64 5, .int .i64 0, .bool false, .slice a1 0 c1] 36
  have nt1 : ¬ q2.all Wa1.heap.size := fun hc => by have := rq1.at_.st.size hc; omega
  have mt1 : Wa1.heap.size ≠ mf := by have := rq1.at_.mlt; omega
  have rr1 := rq1.keep by1
  have be1 := bt1.trans (by1.mono bt1.size)
  have be1' := bs1.keep by1
  have t0 := t0.keep by1
  clear bt1 by1 rq1 ba1 bs1 kp1 HR1 HB1
  obtain ⟨Wn1, hWn1⟩ : ∃ V, Wa1.alloc (.cells #[.int .i64 34, .int .i64 1, .int .i64 5, .int .i64 0, .bool false, .slice a1 0 c1] 36) = V := ⟨_, rfl⟩
  rw [hWn1] at rr1 be1 be1' t0 t1
  have hHW1 := hid be1'
  clear be1'
  obtain ⟨V2, hV2⟩ : ∃ V, (Wn1.alloc (.cells #[.int .u8 97] 5)).freeze ⟨Wn1.heap.size, 1, none⟩ 1 = V := ⟨_, rfl⟩
  have bl2 : Below Wn1.heap.size Wn1 V2 := litA_below hV2
  have hcv2 := litA_conv hV2
  have rl2 := rr1.keep bl2
  have bb2 := be1.trans (bl2.mono be1.size)
  have t0 := t0.keep bl2
  have t1 := t1.keep bl2
  have hC2 := hid (run_asked rl2 bb2.size 2 0 1 5 (.slice (some ⟨Wn1.heap.size, 0, none⟩) 1 1) [97] (.inl (litA_bs 97 97 rfl hV2)) (by decide) (A := K3) rfl k3_told)
  clear hV2 bl2 rr1 be1
  have HR2 := hid rl2
  have HB2 := hid bb2
  clear rl2 bb2
  have Ht0 := hid t0
  clear t0
  have Ht1 := hid t1
  clear t1
  go_wp2_with fail
  refine hC2.out.mono ?_
  intro e Wa2 hp
  obtain ⟨a2, c2, rfl, bs2, ⟨q3, rq2, kp2⟩, ba2⟩ := (show ∃ a c, e = .returned (.tuple #[.agg #[.int .i64 0, .int .i64 1, .int .i64 5, .int .i64 5, .bool false, .slice a 1 c], .bool true]) ∧ Bs Wa2 (.slice a 1 c) [97] ∧ (∃ q', ARun W.heap.size Wa2 n mf pv q' K3.2.1 K3.2.2.1 K3.2.2.2 ∧ ∀ T c t, Blk V2 T c t → T ≠ mf → ¬ q2.all T → Blk Wa2 T c t ∧ ¬ q'.all T) ∧ Below W.heap.size V2 Wa2 from hp)
  clear hp hC2
  obtain ⟨t0, nt0⟩ := kp2 _ _ _ Ht0.out mt0 nt0
  clear Ht0
  obtain ⟨t1, nt1⟩ := kp2 _ _ _ Ht1.out mt1 nt1
  clear Ht1
  have bt2 := HB2.out.trans ba2
  have by2 : Below Wa2.heap.size Wa2 (Wa2.alloc (.cells #[.int .i64 0, .int .i64 1, .int .i64 5, .int .i64 5, .bool false, .slice a2 1 c2] 36)) := (Below.refl _ Wa2).alloc (Nat.le_refl _) _
  have t2 := Blk.new Wa2 #[.int .i64 0, .int .i64 1, .int .i64 5, .int .i64 5, .bool false, .slice a2 1 c2] 36
  have nt2 : ¬ q3.all Wa2.heap.size := fun hc => by have := rq2.at_.st.size hc; omega
  have mt2 : Wa2.heap.size ≠ mf := by have := rq2.at_.mlt; omega
  have rr2 := rq2.keep by2
  have be2 := bt2.trans (by2.mono bt2.size)
  have be2' := bs2.keep by2
  have t0 := t0.keep by2
  have t1 := t1.keep by2
  clear bt2 by2 rq2 ba2 bs2 kp2 HR2 HB2
  obtain ⟨Wn2, hWn2⟩ : ∃ V, Wa2.alloc (.cells #[.int .i64 0, .int .i64 1, .int .i64 5, .int .i64 5, .bool false, .slice a2 1 c2] 36) = V := ⟨_, rfl⟩
  rw [hWn2] at rr2 be2 be2' t0 t1 t2
  have hHW2 := hid be2'
  clear be2'
  have hC3 := hid (run_asked rr2 be2.size 4 0 0 0 (.slice none 0 0) [] (.inl (Bs.nil _)) (by decide) (A := K4) rfl k4_told)
  have HR3 := hid rr2
  have HB3 := hid be2
  clear rr2 be2
  have Ht0 := hid t0
  clear t0
  have Ht1 := hid t1
  clear t1
  have Ht2 := hid t2
  clear t2
  go_wp2_with fail
  refine hC3.out.mono ?_
  intro e Wa3 hp
  obtain ⟨a3, c3, rfl, bs3, ⟨q4, rq3, kp3⟩, ba3⟩ := (show ∃ a c, e = .returned (.tuple #[.agg #[.int .i64 0, .int .i64 1, .int .i64 5, .int .i64 5, .bool false, .slice a 1 c], .bool true]) ∧ Bs Wa3 (.slice a 1 c) [97] ∧ (∃ q', ARun W.heap.size Wa3 n mf pv q' K4.2.1 K4.2.2.1 K4.2.2.2 ∧ ∀ T c t, Blk Wn2 T c t → T ≠ mf → ¬ q3.all T → Blk Wa3 T c t ∧ ¬ q'.all T) ∧ Below W.heap.size Wn2 Wa3 from hp)
  clear hp hC3
  obtain ⟨t0, nt0⟩ := kp3 _ _ _ Ht0.out mt0 nt0
  clear Ht0
  obtain ⟨t1, nt1⟩ := kp3 _ _ _ Ht1.out mt1 nt1
  clear Ht1
  obtain ⟨t2, nt2⟩ := kp3 _ _ _ Ht2.out mt2 nt2
  clear Ht2
  have bt3 := HB3.out.trans ba3
  have by3 : Below Wa3.heap.size Wa3 (Wa3.alloc (.cells #[.int .i64 0, .int .i64 1, .int .i64 5, .int .i64 5, .bool false, .slice a3 1 c3] 36)) := (Below.refl _ Wa3).alloc (Nat.le_refl _) _
  have t3 := Blk.new Wa3 #[.int .i64 0, .int .i64 1, .int .i64 5, .int .i64 5, .bool false, .slice a3 1 c3] 36
  have nt3 : ¬ q4.all Wa3.heap.size := fun hc => by have := rq3.at_.st.size hc; omega
  have mt3 : Wa3.heap.size ≠ mf := by have := rq3.at_.mlt; omega
  have rr3 := rq3.keep by3
  have be3 := bt3.trans (by3.mono bt3.size)
  have be3' := bs3.keep by3
  have t0 := t0.keep by3
  have t1 := t1.keep by3
  have t2 := t2.keep by3
  clear bt3 by3 rq3 ba3 bs3 kp3 HR3 HB3
  obtain ⟨Wn3, hWn3⟩ : ∃ V, Wa3.alloc (.cells #[.int .i64 0, .int .i64 1, .int .i64 5, .int .i64 5, .bool false, .slice a3 1 c3] 36) = V := ⟨_, rfl⟩
  rw [hWn3] at rr3 be3 be3' t0 t1 t2 t3
  have z1 := t0.cell (o := 2) rfl
  have z2 := t0.cell (o := 0) rfl
  have z3 := t1.cell (o := 0) rfl
  have z4 := t2.cell (o := 3) rfl
  have z5 := t3.cell (o := 1) rfl
  have z6 := t3.cell (o := 5) rfl
  have hcv := run_bytes_string (P := Tryz.prog) Tryz.underlying22 Tryz.underlying5 Tryz.underlying9 be3'
  have HE := hid be3
  clear t0 t1 t2 t3 be3' be3 rr3
  go_wp2_with fail
  refine (law8_num _ _).mono ?_
  rintro e Wx ⟨rfl, hw⟩
  subst hw
  go_wp2_with fail
  refine (law8_num _ _).mono ?_
  rintro e Wx ⟨rfl, hw⟩
  subst hw
  go_wp2_with fail
  go_ret
  exact ⟨rfl, HE.out⟩
end Go.Proofs.YtnbeagcmfcdklaaGreat
