import Derived.Test.YtbofcocfcmlcaaaAsk
import Derived.Test.YtbofcocfcmlcaaaMKnows
import Derived.Lib.ConvBytes
/-! Package node: Ask of a node that is up, on any bytes. -/
namespace Go.Proofs.Ytbofcocfcmlcaaa
open Go.RowKit

section
variable {W : World} {n : Nat} {pv : Value} {q : StP} {S : St} {D : Dk}
set_option maxRecDepth 100000 in
set_option maxHeartbeats 1600000 in
theorem node_Ask_none (h : NodeAt W n pv q S D) (v : Value) (b : List UInt8) (hv : Bs W v b) (hl : b.length ≤ 1073741824) (hreq : getReq b = none) :
    Calls Try.prog 38 #[.pointer (some ⟨n, 0, none⟩), v] W fun e w' => ∃ v', e = .returned v' ∧ Own8 w' W.heap.size 5 v' (askF S D b).1 ∧ (∃ q', NodeAt w' n pv q' (askF S D b).2.1 (askF S D b).2.2 ∧ Went q q' W.heap.size) ∧ Ext q.own W w' := by
  have hask : askF S D b = (putRepB 22 0 false [], S, D) := by unfold askF; rw [hreq]
  have HE := hid hask
  clear hask
  obtain ⟨a0, c0, rfl⟩ := hv.form
  have hgr := get_request _ b (W.alloc (.cells #[.int .i64 22, .int .i64 0, .bool false, .slice none 0 0] 60)) (hv.keep ((Below.refl _ W).alloc (Nat.le_refl _) _)) hl
  have b1 : Below W.heap.size W (W.alloc (.cells #[.int .i64 22, .int .i64 0, .bool false, .slice none 0 0] 60)) := (Below.refl _ W).alloc (Nat.le_refl _) _
  have k5 := Blk.new W #[.int .i64 22, .int .i64 0, .bool false, .slice none 0 0] 60
  have h1 := h.keep b1
  have HG := hid hgr
  clear hgr hv
  go_enter Try.func38, Try.ntmps38
  go_wp2_with fail
  refine (node_Up h).mono ?_
  rintro e W9 ⟨rfl, hw⟩
  rw [hw]
  clear hw W9
  go_wp2_with fail
  refine HG.out.mono ?_
  intro e W2 hpost
  unfold ReqPost at hpost
  rw [hreq] at hpost
  obtain ⟨rfl, b2⟩ := hpost
  have b12 : Below W.heap.size W W2 := b1.trans (b2.mono b1.size)
  have b3 : Below W2.heap.size W2 (W2.alloc (.cells #[.int .i64 0, .int .i64 0, .int .i64 0, .slice none 0 0] 57)) := (Below.refl _ W2).alloc (Nat.le_refl _) _
  have b13 : Below W.heap.size W _ := b12.trans (b3.mono b12.size)
  have k9 := (k5.keep b2).keep b3
  have g0 := k9.cell (o := 0) rfl
  have g1 := k9.cell (o := 1) rfl
  have g2 := k9.cell (o := 2) rfl
  have g3 := k9.cell (o := 3) rfl
  have HPR := hid (put_reply 22 0 false (.slice none 0 0) [] (W2.alloc (.cells #[.int .i64 0, .int .i64 0, .int .i64 0, .slice none 0 0] 57)) (Bs.nil _))
  have HB := hid (And.intro b13 h)
  clear HG b1 b2 b3 b12 b13 h h1 k5 k9
  go_wp2_with fail
  refine HPR.out.mono ?_
  rintro e w' ⟨v', c, rfl, ho, hb, _⟩
  have HO := hid (And.intro ho hb)
  clear HPR g0 g1 g2 g3 ho hb
  go_wp2_with fail
  go_ret
  rw [HE.out]
  have hb9 := HB.out.1.trans (HO.out.2.mono HB.out.1.size)
  exact ⟨_, rfl, HO.out.1.mono HB.out.1.size, ⟨q, HB.out.2.keep hb9, Went.refl _ _⟩, Ext.ofBelow hb9⟩

theorem getReq_right {b d : List UInt8} {k lo po : Nat} (h : getReq b = some (k, lo, po, d)) : rightB k lo po d.length = true := by
  unfold getReq at h
  split at h
  · cases h
  · split at h
    · rename_i hr
      simp only [Option.some.injEq, Prod.mk.injEq] at h
      obtain ⟨rfl, rfl, rfl, rfl⟩ := h
      exact hr
    · cases h

theorem node_Ask (h : NodeAt W n pv q S D) (v : Value) (b : List UInt8) (hv : Bs W v b) (hl : b.length ≤ 1073741824) :
    Calls Try.prog 38 #[.pointer (some ⟨n, 0, none⟩), v] W fun e w' => ∃ v', e = .returned v' ∧ Own8 w' W.heap.size 5 v' (askF S D b).1 ∧ (∃ q', NodeAt w' n pv q' (askF S D b).2.1 (askF S D b).2.2 ∧ Went q q' W.heap.size) ∧ Ext q.own W w' := by
  cases hreq : getReq b with
  | none => exact node_Ask_none h v b hv hl hreq
  | some x =>
    obtain ⟨k, lo, po, d⟩ := x
    have hr := of_decide_eq_true (getReq_right hreq)
    obtain ⟨hk1, hk2, l0, l1, p0, p1, hd, _⟩ := hr
    have hk : k = 1 ∨ k = 2 ∨ k = 3 ∨ k = 4 ∨ k = 5 ∨ k = 6 := by omega
    rcases hk with rfl | rfl | rfl | rfl | rfl | rfl
    · exact node_Ask_some h v b hv hl _ lo po d hreq 79 (fun args w => by go_simp) rfl (by decide) (fun W' dv a1 a2 a3 => h_write a1 lo po dv d a2 a3 hd l0 l1 p0 p1)
    · exact node_Ask_some h v b hv hl _ lo po d hreq 80 (fun args w => by go_simp) rfl (by decide) (fun W' dv a1 a2 a3 => h_repair a1 lo po dv d a2 a3 hd l0 l1 p0 p1)
    · exact node_Ask_some h v b hv hl _ lo po d hreq 81 (fun args w => by go_simp) rfl (by decide) (fun W' dv a1 a2 a3 => h_seal a1 lo po dv d a2 a3 hd l0 l1 p0 p1)
    · exact node_Ask_some h v b hv hl _ lo po d hreq 82 (fun args w => by go_simp) rfl (by decide) (fun W' dv a1 a2 a3 => by obtain ⟨ax, cx, rfl⟩ := a2.form; exact h_read a1 lo po ax d cx l0 l1 p0 p1)
    · exact node_Ask_some h v b hv hl _ lo po d hreq 83 (fun args w => by go_simp) rfl (by decide) (fun W' dv a1 a2 a3 => by obtain ⟨ax, cx, rfl⟩ := a2.form; exact h_look a1 lo po ax d cx)
    · exact node_Ask_some h v b hv hl _ lo po d hreq 84 (fun args w => by go_simp) rfl (by decide) (fun W' dv a1 a2 a3 => h_trim a1 lo po dv d a2 a3 hd l0 l1 p0 p1)
end
end Go.Proofs.Ytbofcocfcmlcaaa

/-! Package node: New. -/
namespace Go.Proofs.Ytbofcocfcmlcaaa
open Go.RowKit

set_option maxRecDepth 100000 in
set_option maxHeartbeats 1600000 in
theorem node_New (k : Nat) (W : World) (h1 : 1 ≤ k) (h2 : k ≤ 4096) :
    Calls Try.prog 37 #[.int .i64 (k : Int)] W fun e w' => ∃ n pv q, e = .returned (.tuple #[.pointer (some ⟨n, 0, none⟩), .int .i64 0]) ∧ NodeAt w' n pv q St.fresh (Dk.fresh k) ∧ Below W.heap.size W w' ∧ W.heap.size ≤ n ∧ (∀ b, q.all b → W.heap.size ≤ b) := by
  go_enter Try.func37, Try.ntmps37
  go_wp2_with fail
  refine (disk_New k W h1 h2).mono ?_
  rintro e W1 ⟨p, rfl, hD, b1, hp⟩
  have hN := Blk.new W1 #[.pointer (some ⟨p.d, 0, none⟩), .pointer none] 135
  have b2 : Below W1.heap.size W1 (W1.alloc (.cells #[.pointer (some ⟨p.d, 0, none⟩), .pointer none] 135)) := (Below.refl _ W1).alloc (Nat.le_refl _) _
  have hD2 := hD.keep b2
  have hsz : (W1.alloc (.cells #[.pointer (some ⟨p.d, 0, none⟩), .pointer none] 135)).heap.size = W1.heap.size + 1 := by simp
  have HD := hid (And.intro hD2 (And.intro hN (And.intro b2 hsz)))
  have hps : ∀ b, p.all b → b < W1.heap.size := fun b hb => hD.lt hb
  clear hD hN b2 hD2 hsz
  go_wp2_with fail
  refine (store_Open_fresh k HD.out.1).mono ?_
  rintro e W2 ⟨q, rfl, hS, b3, hqp, hqa, hqb, hqc, hqU⟩
  have hsz := HD.out.2.2.2
  have hN := HD.out.2.1.keep b3
  have hb12 : Below W.heap.size W W2 := b1.trans ((HD.out.2.2.1.mono b1.size).trans (b3.mono (Nat.le_trans b1.size HD.out.2.2.1.size)))
  have hqall : ∀ b, q.all b → W.heap.size ≤ b ∧ b ≠ W1.heap.size := by
    intro b hb
    have h1 := b1.size
    rcases hb with (hb | hb | hb | hb) | hb | hb
    · omega
    · omega
    · omega
    · rw [hqp] at hb; have := hps b (.inl hb); exact ⟨hp b (.inl hb), by omega⟩
    · rw [hqU] at hb; exact hb.elim
    · rw [hqp] at hb; have := hps b (.inr hb); exact ⟨hp b (.inr hb), by omega⟩
  have HH := hid (And.intro hS (And.intro hN (And.intro hb12 hqall)))
  have hf := hN.free 1
  have hc := hN.cell (o := 1) rfl
  have hk := hN.set (o := 1) (.pointer (some ⟨q.s, 0, none⟩))
  have hx : Ext (fun b => b = W1.heap.size) W2 (W2.setCell ⟨W1.heap.size, 1, none⟩ (.pointer (some ⟨q.s, 0, none⟩))) := (Ext.refl (fun b => b = W1.heap.size) W2).setCell (.inl rfl) _
  have HX := hid (And.intro hk hx)
  clear hS hN hb12 hqall hk hx b3
  go_wp2_with fail
  go_ret2
  obtain ⟨hS, hN, hb12, hqall⟩ := HH.out
  obtain ⟨hk, hx⟩ := HX.out
  have hle := b1.size
  exact ⟨W1.heap.size, .pointer (some ⟨p.d, 0, none⟩), q, rfl, ⟨by simpa using hk, hS.ext hx (fun b e hq => (hqall b hq).2 e), fresh_on k, fun hq => (hqall _ hq).2 rfl⟩, hb12.trans (hx.belowOf hb12.size (fun b hb e => by omega)), hle, fun b hb => (hqall b hb).1⟩
end Go.Proofs.Ytbofcocfcmlcaaa

/-! gazettelaw05: num, asks. -/
namespace Go.Proofs.Ytbofcocfcmlcaaa
open Go.RowKit

theorem law5_num (e : Int) (w : World) : Calls Try.prog 32 #[.int .i64 e] w fun r w' => r = .returned (.int .i64 e) ∧ w' = w := by
  go_enter Try.func32, Try.ntmps32
  go_wp2_with fail
  go_ret
  exact ⟨rfl, rfl⟩

/-- '[]byte(s)' of any string. -/
theorem str_conv (W : World) (l : List UInt8) (hl : l.length ≤ 9223372036854775807) :
    ∃ W' c, (convert 9 34 (.string ⟨l.toArray⟩)).run Try.prog W = .ok (.slice (some ⟨W.heap.size, 0, none⟩) l.length c) W' ∧ Bs W' (.slice (some ⟨W.heap.size, 0, none⟩) l.length c) l ∧ Below W.heap.size W W' := by
  have h := Lib.run_convert_string_bytes (P := Try.prog) W 9 34 5 ⟨l.toArray⟩ Try.underlying9 Try.underlying34 Try.underlying5
  have hz : (⟨l.toArray⟩ : ByteArray).size = l.length := by simp [ByteArray.size]
  have hcap : grownCap W l.length 0 5 ≤ maxLen := grownCap_le_maxLen W l.length 0 _ (by unfold maxLen; omega)
  have hge := grownCap_ge W l.length 0 5
  rw [hz] at h
  refine ⟨_, _, h, Bs.mk rfl hge hcap (fun i u hi => ?_), ?_⟩
  · have hlt : i < l.length := (List.getElem?_eq_some_iff.1 hi).1
    rw [Nat.zero_add, Lib.bytesWorld_cell W 5 ⟨l.toArray⟩ i (by rw [hz]; exact hlt)]
    simp [List.getD_eq_getElem?_getD, hi, bv]
  · exact Lib.below_freeze (((Below.refl _ W).drew).alloc (Nat.le_refl _) _) (Nat.le_refl _) 1

set_option maxRecDepth 100000 in
set_option maxHeartbeats 1600000 in
theorem law_asks (k lo po : Int) (l : List UInt8) (W : World) (hr : rightB k lo po l.length = true) (s : ByteArray) (hs : s = ⟨l.toArray⟩) :
    Calls Try.prog 78 #[.int .i64 k, .int .i64 lo, .int .i64 po, .string s] W fun e w' => ∃ v', e = .returned v' ∧ Own8 w' W.heap.size 5 v' (frameB 1 (reqB k lo po l)) ∧ Below W.heap.size W w' := by
  subst hs
  have hrr := of_decide_eq_true hr
  obtain ⟨_, _, _, _, _, _, hn, _⟩ := hrr
  obtain ⟨W1, c, h1, hv, b1⟩ := str_conv W l (by omega)
  have HP := hid (put_request k lo po _ l W1 hv hr)
  have HB := hid b1
  clear hv hn hr b1
  go_enter Try.func78, Try.ntmps78
  go_wp2_with fail
  refine HP.out.mono ?_
  rintro e w' ⟨v', rfl, ho, hb⟩
  have HO := hid (And.intro ho hb)
  clear ho hb HP h1
  go_wp2_with fail
  go_ret
  exact ⟨_, rfl, HO.out.1.mono HB.out.size, HB.out.trans (HO.out.2.mono HB.out.size)⟩
end Go.Proofs.Ytbofcocfcmlcaaa

/-! gazettelaw05.knows: the plain law. -/
namespace Go.Proofs.Ytbofcocfcmlcaaa
open Go.RowKit

def A1 := askF St.fresh (Dk.fresh 8) (frameB 1 (reqB 1 1 0 [97]))
def A2 := askF A1.2.1 A1.2.2 (frameB 1 (reqB 3 1 0 []))
def A3 := askF A2.2.1 A2.2.2 (frameB 1 (reqB 1 1 1 [98]))
def A4 := askF A3.2.1 A3.2.2 (frameB 1 (reqB 4 1 0 []))
set_option maxRecDepth 100000 in
theorem a1 : getRep A1.1 = some (0, 1, false, []) := by kernel_rfl
set_option maxRecDepth 100000 in
theorem a2 : getRep A2.1 = some (0, 1, true, []) := by kernel_rfl
set_option maxRecDepth 100000 in
theorem a3 : getRep A3.1 = some (30, 1, true, []) := by kernel_rfl
set_option maxRecDepth 100000 in
theorem a4 : getRep A4.1 = some (0, 1, true, [97]) := by kernel_rfl
set_option maxRecDepth 100000 in
theorem al : A1.1.length ≤ 1073741824 ∧ A2.1.length ≤ 1073741824 ∧ A3.1.length ≤ 1073741824 ∧ A4.1.length ≤ 1073741824 := by decide +kernel
end Go.Proofs.Ytbofcocfcmlcaaa

/-! gazettelaw05.knows. -/
namespace Go.Proofs.Ytbofcocfcmlcaaa
open Go.RowKit

/-- A node that nobody else holds. -/
structure NRun (B : Nat) (W : World) (n : Nat) (pv : Value) (q : StP) (S : St) (D : Dk) : Prop where
  at_ : NodeAt W n pv q S D
  new : ∀ b, q.all b → B ≤ b
section
variable {B n : Nat} {W W' : World} {pv : Value} {q : StP} {S : St} {D : Dk}
theorem NRun.keep (r : NRun B W n pv q S D) (h : Below W.heap.size W W') : NRun B W' n pv q S D := ⟨r.at_.keep h, r.new⟩
theorem run_Ask (r : NRun B W n pv q S D) (hB : B ≤ W.heap.size) (v : Value) (b : List UInt8) (hv : Bs W v b) (hl : b.length ≤ 1073741824) :
    Calls Try.prog 38 #[.pointer (some ⟨n, 0, none⟩), v] W fun e w' => ∃ v', e = .returned v' ∧ Own8 w' W.heap.size 5 v' (askF S D b).1 ∧ (∃ q', NRun B w' n pv q' (askF S D b).2.1 (askF S D b).2.2 ∧ ∀ T c t, Blk W T c t → ¬ q.all T → Blk w' T c t ∧ ¬ q'.all T) ∧ Below B W w' := by
  refine (node_Ask r.at_ v b hv hl).mono ?_
  rintro e w' ⟨v', rfl, ho, ⟨q', h1, h2⟩, hx⟩
  exact ⟨v', rfl, ho, ⟨q', ⟨h1, fun c hc => (h2.2.2.2.2 c hc).elim (r.new c) (fun h => by omega)⟩, fun T c t hb hq => ⟨hb.ext hx (fun h => hq (.inl h)), fun h => (h2.2.2.2.2 T h).elim hq (fun h => by have := hb.lt; omega)⟩⟩, hx.belowOf hB (fun c hc ho => by have := r.new c (.inl ho); omega)⟩
end

set_option maxRecDepth 100000 in
set_option maxHeartbeats 3200000 in
theorem law5_knows (W : World) : Calls Try.prog 36 #[] W fun e w' => e = .returned (.bool true) ∧ Below W.heap.size W w' := by
  go_enter Try.func36, Try.ntmps36
  go_wp2_with fail
  refine (node_New 8 W (by omega) (by omega)).mono ?_
  rintro e W0 ⟨n, pv, q, rfl, h0, b0, hn, hnew⟩
  have r0 : NRun W.heap.size W0 n pv q St.fresh (Dk.fresh 8) := ⟨h0, hnew⟩
  clear h0 hnew hn
  go_wp2_with fail
  refine (law5_num _ _).mono ?_
  rintro e Wx ⟨rfl, hw⟩
  subst hw
  go_wp2_with fail
  refine (law_asks 1 1 0 [97] Wx (by rfl) _ rfl).mono ?_
  rintro e Wa0 ⟨va0, rfl, oa0, ba0⟩
  have ra0 := r0.keep ba0
  have bA0 := b0.trans (ba0.mono b0.size)
  have HK0 := hid (And.intro ra0 (And.intro bA0 oa0))
  clear ra0 bA0 oa0 ba0 r0 b0
  go_wp2_with fail
  refine (run_Ask HK0.out.1 HK0.out.2.1.size va0 _ HK0.out.2.2.bs (by decide)).mono ?_
  rintro e Wb0 ⟨vb0, rfl, ob0, ⟨q1, rb0, kp0⟩, bb0⟩
  have HB0 := hid (And.intro rb0 (And.intro ob0 (HK0.out.2.1.trans bb0)))
  clear rb0 ob0 bb0 HK0
  go_wp2_with fail
  refine (get_reply vb0 A1.1 Wb0 HB0.out.2.1.bs al.1).mono ?_
  intro e Wc0 hpost
  unfold RepPost at hpost
  rw [a1] at hpost
  obtain ⟨vd0, rfl, od0, bd0⟩ := (show ∃ v, e = .returned (.tuple #[.agg #[.int .i64 0, .int .i64 1, .bool false, v], .int .i64 0]) ∧ Own8 Wc0 Wb0.heap.size 5 v [] ∧ Below Wb0.heap.size Wb0 Wc0 from hpost)
  clear hpost
  obtain ⟨ad0, cd0, rfl⟩ := (show ∃ a c, vd0 = .slice a 0 c from od0.form)
  have be0 : Below Wc0.heap.size Wc0 (Wc0.alloc (.cells #[.int .i64 0, .int .i64 1, .bool false, .slice ad0 0 cd0] 60)) := (Below.refl _ Wc0).alloc (Nat.le_refl _) _
  have rc0 := (HB0.out.1.keep bd0).keep be0
  have bC0 := (HB0.out.2.2.trans (bd0.mono HB0.out.2.2.size))
  have n0 : W.heap.size ≤ Wc0.heap.size := bC0.size
  have bD0 := bC0.trans (be0.mono bC0.size)
  have k0 := Blk.new Wc0 #[.int .i64 0, .int .i64 1, .bool false, .slice ad0 0 cd0] 60
  have hq0 : ¬ q1.all Wc0.heap.size := fun hq => by have := (HB0.out.1.keep bd0).at_.st.size hq; omega
  clear HB0 bd0 be0 bC0 od0 kp0
  go_wp2_with fail
  refine (law_asks 3 1 0 [] (Wc0.alloc (.cells #[.int .i64 0, .int .i64 1, .bool false, .slice ad0 0 cd0] 60)) (by rfl) _ rfl).mono ?_
  rintro e Wa1 ⟨va1, rfl, oa1, ba1⟩
  have ra1 := rc0.keep ba1
  have bA1 := bD0.trans (ba1.mono bD0.size)
  have HK1 := hid (And.intro ra1 (And.intro bA1 oa1))
  have k0 := k0.keep ba1
  clear ra1 bA1 oa1 ba1 rc0 bD0
  go_wp2_with fail
  refine (run_Ask HK1.out.1 HK1.out.2.1.size va1 _ HK1.out.2.2.bs (by decide)).mono ?_
  rintro e Wb1 ⟨vb1, rfl, ob1, ⟨q2, rb1, kp1⟩, bb1⟩
  obtain ⟨kk0, hq0⟩ := kp1 _ _ _ k0 hq0
  clear k0
  have HB1 := hid (And.intro rb1 (And.intro ob1 (HK1.out.2.1.trans bb1)))
  clear rb1 ob1 bb1 HK1
  go_wp2_with fail
  refine (get_reply vb1 A2.1 Wb1 HB1.out.2.1.bs al.2.1).mono ?_
  intro e Wc1 hpost
  unfold RepPost at hpost
  rw [a2] at hpost
  obtain ⟨vd1, rfl, od1, bd1⟩ := (show ∃ v, e = .returned (.tuple #[.agg #[.int .i64 0, .int .i64 1, .bool true, v], .int .i64 0]) ∧ Own8 Wc1 Wb1.heap.size 5 v [] ∧ Below Wb1.heap.size Wb1 Wc1 from hpost)
  clear hpost
  obtain ⟨ad1, cd1, rfl⟩ := (show ∃ a c, vd1 = .slice a 0 c from od1.form)
  have be1 : Below Wc1.heap.size Wc1 (Wc1.alloc (.cells #[.int .i64 0, .int .i64 1, .bool true, .slice ad1 0 cd1] 60)) := (Below.refl _ Wc1).alloc (Nat.le_refl _) _
  have rc1 := (HB1.out.1.keep bd1).keep be1
  have bC1 := (HB1.out.2.2.trans (bd1.mono HB1.out.2.2.size))
  have n1 : W.heap.size ≤ Wc1.heap.size := bC1.size
  have bD1 := bC1.trans (be1.mono bC1.size)
  have k1 := Blk.new Wc1 #[.int .i64 0, .int .i64 1, .bool true, .slice ad1 0 cd1] 60
  have k0 := (kk0.keep bd1).keep be1
  clear kk0
  have hq1 : ¬ q2.all Wc1.heap.size := fun hq => by have := (HB1.out.1.keep bd1).at_.st.size hq; omega
  clear HB1 bd1 be1 bC1 od1 kp1
  go_wp2_with fail
  refine (law_asks 1 1 1 [98] (Wc1.alloc (.cells #[.int .i64 0, .int .i64 1, .bool true, .slice ad1 0 cd1] 60)) (by rfl) _ rfl).mono ?_
  rintro e Wa2 ⟨va2, rfl, oa2, ba2⟩
  have ra2 := rc1.keep ba2
  have bA2 := bD1.trans (ba2.mono bD1.size)
  have HK2 := hid (And.intro ra2 (And.intro bA2 oa2))
  have k0 := k0.keep ba2
  have k1 := k1.keep ba2
  clear ra2 bA2 oa2 ba2 rc1 bD1
  go_wp2_with fail
  refine (run_Ask HK2.out.1 HK2.out.2.1.size va2 _ HK2.out.2.2.bs (by decide)).mono ?_
  rintro e Wb2 ⟨vb2, rfl, ob2, ⟨q3, rb2, kp2⟩, bb2⟩
  obtain ⟨kk0, hq0⟩ := kp2 _ _ _ k0 hq0
  obtain ⟨kk1, hq1⟩ := kp2 _ _ _ k1 hq1
  clear k0 k1
  have HB2 := hid (And.intro rb2 (And.intro ob2 (HK2.out.2.1.trans bb2)))
  clear rb2 ob2 bb2 HK2
  go_wp2_with fail
  refine (get_reply vb2 A3.1 Wb2 HB2.out.2.1.bs al.2.2.1).mono ?_
  intro e Wc2 hpost
  unfold RepPost at hpost
  rw [a3] at hpost
  obtain ⟨vd2, rfl, od2, bd2⟩ := (show ∃ v, e = .returned (.tuple #[.agg #[.int .i64 30, .int .i64 1, .bool true, v], .int .i64 0]) ∧ Own8 Wc2 Wb2.heap.size 5 v [] ∧ Below Wb2.heap.size Wb2 Wc2 from hpost)
  clear hpost
  obtain ⟨ad2, cd2, rfl⟩ := (show ∃ a c, vd2 = .slice a 0 c from od2.form)
  have be2 : Below Wc2.heap.size Wc2 (Wc2.alloc (.cells #[.int .i64 30, .int .i64 1, .bool true, .slice ad2 0 cd2] 60)) := (Below.refl _ Wc2).alloc (Nat.le_refl _) _
  have rc2 := (HB2.out.1.keep bd2).keep be2
  have bC2 := (HB2.out.2.2.trans (bd2.mono HB2.out.2.2.size))
  have n2 : W.heap.size ≤ Wc2.heap.size := bC2.size
  have bD2 := bC2.trans (be2.mono bC2.size)
  have k2 := Blk.new Wc2 #[.int .i64 30, .int .i64 1, .bool true, .slice ad2 0 cd2] 60
  have k0 := (kk0.keep bd2).keep be2
  have k1 := (kk1.keep bd2).keep be2
  clear kk0 kk1
  have hq2 : ¬ q3.all Wc2.heap.size := fun hq => by have := (HB2.out.1.keep bd2).at_.st.size hq; omega
  clear HB2 bd2 be2 bC2 od2 kp2
  go_wp2_with fail
  refine (law_asks 4 1 0 [] (Wc2.alloc (.cells #[.int .i64 30, .int .i64 1, .bool true, .slice ad2 0 cd2] 60)) (by rfl) _ rfl).mono ?_
  rintro e Wa3 ⟨va3, rfl, oa3, ba3⟩
  have ra3 := rc2.keep ba3
  have bA3 := bD2.trans (ba3.mono bD2.size)
  have HK3 := hid (And.intro ra3 (And.intro bA3 oa3))
  have k0 := k0.keep ba3
  have k1 := k1.keep ba3
  have k2 := k2.keep ba3
  clear ra3 bA3 oa3 ba3 rc2 bD2
  go_wp2_with fail
  refine (run_Ask HK3.out.1 HK3.out.2.1.size va3 _ HK3.out.2.2.bs (by decide)).mono ?_
  rintro e Wb3 ⟨vb3, rfl, ob3, ⟨q4, rb3, kp3⟩, bb3⟩
  obtain ⟨kk0, hq0⟩ := kp3 _ _ _ k0 hq0
  obtain ⟨kk1, hq1⟩ := kp3 _ _ _ k1 hq1
  obtain ⟨kk2, hq2⟩ := kp3 _ _ _ k2 hq2
  clear k0 k1 k2
  have HB3 := hid (And.intro rb3 (And.intro ob3 (HK3.out.2.1.trans bb3)))
  clear rb3 ob3 bb3 HK3
  go_wp2_with fail
  refine (get_reply vb3 A4.1 Wb3 HB3.out.2.1.bs al.2.2.2).mono ?_
  intro e Wc3 hpost
  unfold RepPost at hpost
  rw [a4] at hpost
  obtain ⟨vd3, rfl, od3, bd3⟩ := (show ∃ v, e = .returned (.tuple #[.agg #[.int .i64 0, .int .i64 1, .bool true, v], .int .i64 0]) ∧ Own8 Wc3 Wb3.heap.size 5 v [97] ∧ Below Wb3.heap.size Wb3 Wc3 from hpost)
  clear hpost
  obtain ⟨ad3, cd3, rfl⟩ := (show ∃ a c, vd3 = .slice a 1 c from od3.form)
  have be3 : Below Wc3.heap.size Wc3 (Wc3.alloc (.cells #[.int .i64 0, .int .i64 1, .bool true, .slice ad3 1 cd3] 60)) := (Below.refl _ Wc3).alloc (Nat.le_refl _) _
  have rc3 := (HB3.out.1.keep bd3).keep be3
  have bC3 := (HB3.out.2.2.trans (bd3.mono HB3.out.2.2.size))
  have n3 : W.heap.size ≤ Wc3.heap.size := bC3.size
  have bD3 := bC3.trans (be3.mono bC3.size)
  have k3 := Blk.new Wc3 #[.int .i64 0, .int .i64 1, .bool true, .slice ad3 1 cd3] 60
  have k0 := (kk0.keep bd3).keep be3
  have k1 := (kk1.keep bd3).keep be3
  have k2 := (kk2.keep bd3).keep be3
  clear kk0 kk1 kk2
  have o3 := od3.bs.keep be3
  have hq3 : ¬ q4.all Wc3.heap.size := fun hq => by have := (HB3.out.1.keep bd3).at_.st.size hq; omega
  clear HB3 bd3 be3 bC3 od3 kp3
  go_wp2_with fail
  have c00 := k0.cell (o := 0) rfl
  have c01 := k0.cell (o := 1) rfl
  have c12 := k1.cell (o := 2) rfl
  have c20 := k2.cell (o := 0) rfl
  have c33 := k3.cell (o := 3) rfl
  have hcv := run_bytes_string (P := Try.prog) Try.underlying34 Try.underlying5 Try.underlying9 o3
  clear k0 k1 k2 k3 o3 rc3
  refine (law5_num _ _).mono ?_
  rintro e Wx ⟨rfl, hw⟩
  subst hw
  go_wp2_with fail
  refine (law5_num _ _).mono ?_
  rintro e Wx ⟨rfl, hw⟩
  subst hw
  go_wp2_with fail
  refine (law5_num _ _).mono ?_
  rintro e Wx ⟨rfl, hw⟩
  subst hw
  go_wp2_with fail
  refine (law5_num _ _).mono ?_
  rintro e Wx ⟨rfl, hw⟩
  subst hw
  go_wp2_with fail
  refine (law5_num _ _).mono ?_
  rintro e Wx ⟨rfl, hw⟩
  subst hw
  go_wp2_with fail
  refine (law5_num _ _).mono ?_
  rintro e Wx ⟨rfl, hw⟩
  subst hw
  go_wp2_with fail
  go_ret
  exact ⟨rfl, bD3⟩
end Go.Proofs.Ytbofcocfcmlcaaa
