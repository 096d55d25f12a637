import Derived.Test.YtbofcocfcmlcaaaGreatAskB
import Derived.Test.YtbofcocfcmlcaaaGreatKnows
import Derived.Lib.ConvBytes
/-! Package node: New. -/
namespace Go.Proofs.YtbofcocfcmlcaaaGreat
open Go.RowKit

set_option maxRecDepth 100000 in
set_option maxHeartbeats 1600000 in
theorem node_New (k : Nat) (W : World) (h1 : 1 ≤ k) (h2 : k ≤ 4096) :
    Calls Tryz.prog 10 #[.int .i64 (k : Int)] W fun e w' => ∃ n pv q, e = .returned (.tuple #[.pointer (some ⟨n, 0, none⟩), .int .i64 0]) ∧ NodeAt w' n pv q St.fresh (Dk.fresh k) ∧ Below W.heap.size W w' ∧ W.heap.size ≤ n ∧ (∀ b, q.all b → W.heap.size ≤ b) := by
  go_enter Tryz.func10, Tryz.ntmps10
  go_wp2_with fail
  refine (disk_New k W h1 h2).mono ?_
  rintro e W1 ⟨p, rfl, hD, b1, hp⟩
  have hN := Blk.new W1 #[.pointer (some ⟨p.d, 0, none⟩), .pointer none] 54
  have b2 : Below W1.heap.size W1 (W1.alloc (.cells #[.pointer (some ⟨p.d, 0, none⟩), .pointer none] 54)) := (Below.refl _ W1).alloc (Nat.le_refl _) _
  have hD2 := hD.keep b2
  have hsz : (W1.alloc (.cells #[.pointer (some ⟨p.d, 0, none⟩), .pointer none] 54)).heap.size = W1.heap.size + 1 := by simp
  have HD := hid (And.intro hD2 (And.intro hN (And.intro b2 hsz)))
  have hps : ∀ b, p.all b → b < W1.heap.size := fun b hb => hD.lt hb
  clear hD hN b2 hD2 hsz
  go_wp2_with fail
  refine (store_Open_fresh k HD.out.1).mono ?_
  rintro e W2 ⟨q, rfl, hS, b3, hqp, hqa, hqb, hqc, hqU⟩
  have hsz := HD.out.2.2.2
  have hN := HD.out.2.1.keep b3
  have hb12 : Below W.heap.size W W2 := b1.trans ((HD.out.2.2.1.mono b1.size).trans (b3.mono (Nat.le_trans b1.size HD.out.2.2.1.size)))
  have hqall : ∀ b, q.all b → W.heap.size ≤ b ∧ b ≠ W1.heap.size := by
    intro b hb
    have h1 := b1.size
    rcases hb with (hb | hb | hb | hb) | hb | hb
    · omega
    · omega
    · omega
    · rw [hqp] at hb; have := hps b (.inl hb); exact ⟨hp b (.inl hb), by omega⟩
    · rw [hqU] at hb; exact hb.elim
    · rw [hqp] at hb; have := hps b (.inr hb); exact ⟨hp b (.inr hb), by omega⟩
  have HH := hid (And.intro hS (And.intro hN (And.intro hb12 hqall)))
  have hf := hN.free 1
  have hc := hN.cell (o := 1) rfl
  have hk := hN.set (o := 1) (.pointer (some ⟨q.s, 0, none⟩))
  have hx : Ext (fun b => b = W1.heap.size) W2 (W2.setCell ⟨W1.heap.size, 1, none⟩ (.pointer (some ⟨q.s, 0, none⟩))) := (Ext.refl (fun b => b = W1.heap.size) W2).setCell (.inl rfl) _
  have HX := hid (And.intro hk hx)
  clear hS hN hb12 hqall hk hx b3
  go_wp2_with fail
  go_ret2
  obtain ⟨hS, hN, hb12, hqall⟩ := HH.out
  obtain ⟨hk, hx⟩ := HX.out
  have hle := b1.size
  exact ⟨W1.heap.size, .pointer (some ⟨p.d, 0, none⟩), q, rfl, ⟨by simpa using hk, hS.ext hx (fun b e hq => (hqall b hq).2 e), fresh_on k, fun hq => (hqall _ hq).2 rfl⟩, hb12.trans (hx.belowOf hb12.size (fun b hb e => by omega)), hle, fun b hb => (hqall b hb).1⟩
end Go.Proofs.YtbofcocfcmlcaaaGreat

/-! gazettelaw05: num, asks. -/
namespace Go.Proofs.YtbofcocfcmlcaaaGreat
open Go.RowKit

theorem law5_num (e : Int) (w : World) : Calls Tryz.prog 12 #[.int .i64 e] w fun r w' => r = .returned (.int .i64 e) ∧ w' = w := by
  go_enter Tryz.func12, Tryz.ntmps12
  go_wp2_with fail
  go_ret
  exact ⟨rfl, rfl⟩

/-- '[]byte(s)' of any string. -/
theorem str_conv (W : World) (l : List UInt8) (hl : l.length ≤ 9223372036854775807) :
    ∃ W' c, (convert 9 28 (.string ⟨l.toArray⟩)).run Tryz.prog W = .ok (.slice (some ⟨W.heap.size, 0, none⟩) l.length c) W' ∧ Bs W' (.slice (some ⟨W.heap.size, 0, none⟩) l.length c) l ∧ Below W.heap.size W W' := by
  have h := Lib.run_convert_string_bytes (P := Tryz.prog) W 9 28 5 ⟨l.toArray⟩ Tryz.underlying9 Tryz.underlying28 Tryz.underlying5
  have hz : (⟨l.toArray⟩ : ByteArray).size = l.length := by simp [ByteArray.size]
  have hcap : grownCap W l.length 0 5 ≤ maxLen := grownCap_le_maxLen W l.length 0 _ (by unfold maxLen; omega)
  have hge := grownCap_ge W l.length 0 5
  rw [hz] at h
  refine ⟨_, _, h, Bs.mk rfl hge hcap (fun i u hi => ?_), ?_⟩
  · have hlt : i < l.length := (List.getElem?_eq_some_iff.1 hi).1
    rw [Nat.zero_add, Lib.bytesWorld_cell W 5 ⟨l.toArray⟩ i (by rw [hz]; exact hlt)]
    simp [List.getD_eq_getElem?_getD, hi, bv]
  · exact Lib.below_freeze (((Below.refl _ W).drew).alloc (Nat.le_refl _) _) (Nat.le_refl _) 1

set_option maxRecDepth 100000 in
set_option maxHeartbeats 1600000 in
theorem law_asks (k lo po : Int) (l : List UInt8) (W : World) (hr : rightB k lo po l.length = true) (s : ByteArray) (hs : s = ⟨l.toArray⟩) :
    Calls Tryz.prog 47 #[.int .i64 k, .int .i64 lo, .int .i64 po, .string s] W fun e w' => ∃ v', e = .returned v' ∧ Own8 w' W.heap.size 5 v' (frameB 1 (reqB k lo po l)) ∧ Below W.heap.size W w' := by
  subst hs
  have hrr := of_decide_eq_true hr
  obtain ⟨_, _, _, _, _, _, hn, _⟩ := hrr
  obtain ⟨W1, c, h1, hv, b1⟩ := str_conv W l (by omega)
  have HP := hid (put_request k lo po _ l W1 hv hr)
  have HB := hid b1
  clear hv hn hr b1
  go_enter Tryz.func47, Tryz.ntmps47
  go_wp2_with fail
  refine HP.out.mono ?_
  rintro e w' ⟨v', rfl, ho, hb⟩
  have HO := hid (And.intro ho hb)
  clear ho hb HP h1
  go_wp2_with fail
  go_ret
  exact ⟨_, rfl, HO.out.1.mono HB.out.size, HB.out.trans (HO.out.2.mono HB.out.size)⟩
end Go.Proofs.YtbofcocfcmlcaaaGreat

/-! gazettelaw05.knows: the plain law. -/
namespace Go.Proofs.YtbofcocfcmlcaaaGreat
open Go.RowKit

def A1 := askF St.fresh (Dk.fresh 8) (frameB 1 (reqB 1 1 0 [97]))
def A2 := askF A1.2.1 A1.2.2 (frameB 1 (reqB 3 1 0 []))
def A3 := askF A2.2.1 A2.2.2 (frameB 1 (reqB 1 1 1 [98]))
def A4 := askF A3.2.1 A3.2.2 (frameB 1 (reqB 4 1 0 []))
set_option maxRecDepth 100000 in
theorem a1 : getRep A1.1 = some (0, 1, false, []) := by kernel_rfl
set_option maxRecDepth 100000 in
theorem a2 : getRep A2.1 = some (0, 1, true, []) := by kernel_rfl
set_option maxRecDepth 100000 in
theorem a3 : getRep A3.1 = some (30, 1, true, []) := by kernel_rfl
set_option maxRecDepth 100000 in
theorem a4 : getRep A4.1 = some (0, 1, true, [97]) := by kernel_rfl
set_option maxRecDepth 100000 in
theorem al : A1.1.length ≤ 1073741824 ∧ A2.1.length ≤ 1073741824 ∧ A3.1.length ≤ 1073741824 ∧ A4.1.length ≤ 1073741824 := by decide +kernel
end Go.Proofs.YtbofcocfcmlcaaaGreat
