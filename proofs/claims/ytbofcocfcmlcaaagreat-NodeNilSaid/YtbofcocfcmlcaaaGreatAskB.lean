import Derived.Test.YtbofcocfcmlcaaaGreatAsk
/-! Package node: Ask of a node that is up, on any bytes. -/
namespace Go.Proofs.YtbofcocfcmlcaaaGreat
open Go.RowKit

section
variable {W : World} {n : Nat} {pv : Value} {q : StP} {S : St} {D : Dk}
set_option maxRecDepth 100000 in
set_option maxHeartbeats 1600000 in
theorem node_Ask_none (h : NodeAt W n pv q S D) (v : Value) (b : List UInt8) (hv : Bs W v b) (hl : b.length ≤ 1073741824) (hreq : getReq b = none) :
    Calls Tryz.prog 17 #[.pointer (some ⟨n, 0, none⟩), v] W fun e w' => ∃ v', e = .returned v' ∧ Own8 w' W.heap.size 5 v' (askF S D b).1 ∧ (∃ q', NodeAt w' n pv q' (askF S D b).2.1 (askF S D b).2.2 ∧ Went q q' W.heap.size) ∧ Ext q.own W w' := by
  have hask : askF S D b = (putRepB 22 0 false [], S, D) := by unfold askF; rw [hreq]
  have HE := hid hask
  clear hask
  obtain ⟨a0, c0, rfl⟩ := hv.form
  have hgr := get_request _ b (W.alloc (.cells #[.int .i64 22, .int .i64 0, .bool false, .slice none 0 0] 88)) (hv.keep ((Below.refl _ W).alloc (Nat.le_refl _) _)) hl
  have b1 : Below W.heap.size W (W.alloc (.cells #[.int .i64 22, .int .i64 0, .bool false, .slice none 0 0] 88)) := (Below.refl _ W).alloc (Nat.le_refl _) _
  have k5 := Blk.new W #[.int .i64 22, .int .i64 0, .bool false, .slice none 0 0] 88
  have h1 := h.keep b1
  have HG := hid hgr
  clear hgr hv
  go_enter Tryz.func17, Tryz.ntmps17
  go_wp2_with fail
  refine (node_Up h).mono ?_
  rintro e W9 ⟨rfl, hw⟩
  rw [hw]
  clear hw W9
  go_wp2_with fail
  refine HG.out.mono ?_
  intro e W2 hpost
  unfold ReqPost at hpost
  rw [hreq] at hpost
  obtain ⟨rfl, b2⟩ := hpost
  have b12 : Below W.heap.size W W2 := b1.trans (b2.mono b1.size)
  have b3 : Below W2.heap.size W2 (W2.alloc (.cells #[.int .i64 0, .int .i64 0, .int .i64 0, .slice none 0 0] 94)) := (Below.refl _ W2).alloc (Nat.le_refl _) _
  have b13 : Below W.heap.size W _ := b12.trans (b3.mono b12.size)
  have k9 := (k5.keep b2).keep b3
  have g0 := k9.cell (o := 0) rfl
  have g1 := k9.cell (o := 1) rfl
  have g2 := k9.cell (o := 2) rfl
  have g3 := k9.cell (o := 3) rfl
  have HPR := hid (put_reply 22 0 false (.slice none 0 0) [] (W2.alloc (.cells #[.int .i64 0, .int .i64 0, .int .i64 0, .slice none 0 0] 94)) (Bs.nil _))
  have HB := hid (And.intro b13 h)
  clear HG b1 b2 b3 b12 b13 h h1 k5 k9
  go_wp2_with fail
  refine HPR.out.mono ?_
  rintro e w' ⟨v', c, rfl, ho, hb, _⟩
  have HO := hid (And.intro ho hb)
  clear HPR g0 g1 g2 g3 ho hb
  go_wp2_with fail
  go_ret
  rw [HE.out]
  have hb9 := HB.out.1.trans (HO.out.2.mono HB.out.1.size)
  exact ⟨_, rfl, HO.out.1.mono HB.out.1.size, ⟨q, HB.out.2.keep hb9, Went.refl _ _⟩, Ext.ofBelow hb9⟩

theorem getReq_right {b d : List UInt8} {k lo po : Nat} (h : getReq b = some (k, lo, po, d)) : rightB k lo po d.length = true := by
  unfold getReq at h
  split at h
  · cases h
  · split at h
    · rename_i hr
      simp only [Option.some.injEq, Prod.mk.injEq] at h
      obtain ⟨rfl, rfl, rfl, rfl⟩ := h
      exact hr
    · cases h

theorem node_Ask (h : NodeAt W n pv q S D) (v : Value) (b : List UInt8) (hv : Bs W v b) (hl : b.length ≤ 1073741824) :
    Calls Tryz.prog 17 #[.pointer (some ⟨n, 0, none⟩), v] W fun e w' => ∃ v', e = .returned v' ∧ Own8 w' W.heap.size 5 v' (askF S D b).1 ∧ (∃ q', NodeAt w' n pv q' (askF S D b).2.1 (askF S D b).2.2 ∧ Went q q' W.heap.size) ∧ Ext q.own W w' := by
  cases hreq : getReq b with
  | none => exact node_Ask_none h v b hv hl hreq
  | some x =>
    obtain ⟨k, lo, po, d⟩ := x
    have hr := of_decide_eq_true (getReq_right hreq)
    obtain ⟨hk1, hk2, l0, l1, p0, p1, hd, _⟩ := hr
    have hk : k = 1 ∨ k = 2 ∨ k = 3 ∨ k = 4 ∨ k = 5 ∨ k = 6 := by omega
    rcases hk with rfl | rfl | rfl | rfl | rfl | rfl
    · exact node_Ask_some h v b hv hl _ lo po d hreq 54 (fun args w => by go_simp) rfl (by decide) (fun W' dv a1 a2 a3 => h_write a1 lo po dv d a2 a3 hd l0 l1 p0 p1)
    · exact node_Ask_some h v b hv hl _ lo po d hreq 55 (fun args w => by go_simp) rfl (by decide) (fun W' dv a1 a2 a3 => h_repair a1 lo po dv d a2 a3 hd l0 l1 p0 p1)
    · exact node_Ask_some h v b hv hl _ lo po d hreq 56 (fun args w => by go_simp) rfl (by decide) (fun W' dv a1 a2 a3 => h_seal a1 lo po dv d a2 a3 hd l0 l1 p0 p1)
    · exact node_Ask_some h v b hv hl _ lo po d hreq 57 (fun args w => by go_simp) rfl (by decide) (fun W' dv a1 a2 a3 => by obtain ⟨ax, cx, rfl⟩ := a2.form; exact h_read a1 lo po ax d cx l0 l1 p0 p1)
    · exact node_Ask_some h v b hv hl _ lo po d hreq 58 (fun args w => by go_simp) rfl (by decide) (fun W' dv a1 a2 a3 => by obtain ⟨ax, cx, rfl⟩ := a2.form; exact h_look a1 lo po ax d cx)
    · exact node_Ask_some h v b hv hl _ lo po d hreq 59 (fun args w => by go_simp) rfl (by decide) (fun W' dv a1 a2 a3 => h_trim a1 lo po dv d a2 a3 hd l0 l1 p0 p1)
end
end Go.Proofs.YtbofcocfcmlcaaaGreat
