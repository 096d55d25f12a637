import Derived.Test.YtbofcocfcmlcaaaOnceP
import Derived.Test.YtbofcocfcmlcaaaRegionG
import Derived.BigQuiet
/-! gazettelaw04.StoreOnce: the walk. -/
namespace Go.Proofs.Ytbofcocfcmlcaaa
open Go.RowKit

/-- What the inner loops need. -/
structure InAt (w : World) (TW TN TO : Nat) (S S' : St) (oc : Array Value) : Prop where
  was : Blk w TW (told S) 44
  now : Blk w TN (told S') 44
  op : Blk w TO oc 48
theorem InAt.keep {w w' : World} {TW TN TO : Nat} {S S' : St} {oc : Array Value} (h : InAt w TW TN TO S S' oc) (hb : Below w.heap.size w w') : InAt w' TW TN TO S S' oc := ⟨h.was.keep hb, h.now.keep hb, h.op.keep hb⟩
section
variable {w : World} {TW TN TO : Nat} {S S' : St} {oc : Array Value}
theorem InAt.wThere (h : InAt w TW TN TO S S' oc) (a b : Nat) (ha : a < 3) (hb : b < 6) : w.cell? ⟨TW, 18 + a * 6 + b, none⟩ = some (.bool (thB S a b)) := by
  rw [← tThere_eq S a b hb, Nat.add_assoc]; exact h.was.cell (by rw [told_get, if_neg (by omega), if_pos (by omega), Nat.add_sub_cancel_left])
theorem InAt.nThere (h : InAt w TW TN TO S S' oc) (a b : Nat) (ha : a < 3) (hb : b < 6) : w.cell? ⟨TN, 18 + a * 6 + b, none⟩ = some (.bool (thB S' a b)) := by
  rw [← tThere_eq S' a b hb, Nat.add_assoc]; exact h.now.cell (by rw [told_get, if_neg (by omega), if_pos (by omega), Nat.add_sub_cancel_left])
theorem InAt.wData (h : InAt w TW TN TO S S' oc) (a b : Nat) (ha : a < 3) (hb : b < 6) : w.cell? ⟨TW, a * 6 + b, none⟩ = some (.string ⟨(getF S (a : Nat) (b : Nat)).2.toArray⟩) := by
  rw [← tData_eq S a b hb]; exact h.was.cell (by rw [told_get, if_pos (by omega)])
theorem InAt.nData (h : InAt w TW TN TO S S' oc) (a b : Nat) (ha : a < 3) (hb : b < 6) : w.cell? ⟨TN, a * 6 + b, none⟩ = some (.string ⟨(getF S' (a : Nat) (b : Nat)).2.toArray⟩) := by
  rw [← tData_eq S' a b hb]; exact h.now.cell (by rw [told_get, if_pos (by omega)])
theorem InAt.wSealed (h : InAt w TW TN TO S S' oc) (a : Nat) (ha : a < 3) : w.cell? ⟨TW, 36 + a, none⟩ = some (.bool (S.get (a : Nat)).2.2) :=
  h.was.cell (by rw [told_get, if_neg (by omega), if_neg (by omega), if_pos (by omega), Nat.add_sub_cancel_left]; rfl)
theorem InAt.nSealed (h : InAt w TW TN TO S S' oc) (a : Nat) (ha : a < 3) : w.cell? ⟨TN, 36 + a, none⟩ = some (.bool (S'.get (a : Nat)).2.2) :=
  h.now.cell (by rw [told_get, if_neg (by omega), if_neg (by omega), if_pos (by omega), Nat.add_sub_cancel_left]; rfl)
theorem InAt.wTrim (h : InAt w TW TN TO S S' oc) (a : Nat) (ha : a < 3) : w.cell? ⟨TW, 39 + a, none⟩ = some (.int .i64 (S.get (a : Nat)).2.1) :=
  h.was.cell (by rw [told_get, if_neg (by omega), if_neg (by omega), if_neg (by omega), if_pos (by omega), Nat.add_sub_cancel_left]; rfl)
theorem InAt.nTrim (h : InAt w TW TN TO S S' oc) (a : Nat) (ha : a < 3) : w.cell? ⟨TN, 39 + a, none⟩ = some (.int .i64 (S'.get (a : Nat)).2.1) :=
  h.now.cell (by rw [told_get, if_neg (by omega), if_neg (by omega), if_neg (by omega), if_pos (by omega), Nat.add_sub_cancel_left]; rfl)
end

theorem id_load {P : Program} {ops : Array Oper} {Q : Exit → Act → World → Prop} {l : List Oper} {a : Act} {w : World} {d : Option Nat} {k : Nat} {ty : TypeId} {p : String} {e : Array Edge}
    (h : wpList P ops Q ({ dst := d, op := .load 44 (.tmp k), type := ty, pos := p, after := e, guard := none } :: l) a w) : wpList P ops Q ({ dst := d, op := .load 44 (.tmp k), type := ty, pos := p, after := e, guard := none } :: l) a w := h
theorem wpList_wanted {P : Program} {ops : Array Oper} {Q : Exit → Act → World → Prop} {a : Act} {w : World} {rest : List Oper} {o : Oper} (hw : Region.wanted o (yielded ops a.tmps) = true)
    (h : ∀ K : Act → World → Prop, (∀ a w, wpList P ops Q rest a w → K a w) → o.wp P a w K Q) : wpList P ops Q (o :: rest) a w :=
  wpList_step fun K hK => by rw [if_pos hw]; exact h K hK
theorem id_gload {P : Program} {ops : Array Oper} {Q : Exit → Act → World → Prop} {l : List Oper} {a : Act} {w : World} {d : Option Nat} {k : Nat} {ty : TypeId} {p : String} {e : Array Edge} {g : Nat × Bool}
    (h : wpList P ops Q ({ dst := d, op := .load 44 (.tmp k), type := ty, pos := p, after := e, guard := some g } :: l) a w) : wpList P ops Q ({ dst := d, op := .load 44 (.tmp k), type := ty, pos := p, after := e, guard := some g } :: l) a w := h
theorem id_gneq {P : Program} {ops : Array Oper} {Q : Exit → Act → World → Prop} {l : List Oper} {a : Act} {w : World} {d : Option Nat} {k m : Nat} {ty : TypeId} {p : String} {e : Array Edge} {g : Nat × Bool}
    (h : wpList P ops Q ({ dst := d, op := .binOp .neq 44 (.tmp k) (.tmp m) 44, type := ty, pos := p, after := e, guard := some g } :: l) a w) : wpList P ops Q ({ dst := d, op := .binOp .neq 44 (.tmp k) (.tmp m) 44, type := ty, pos := p, after := e, guard := some g } :: l) a w := h
theorem id_store {P : Program} {ops : Array Oper} {Q : Exit → Act → World → Prop} {l : List Oper} {a : Act} {w : World} {d : Option Nat} {k m : Nat} {ty : TypeId} {p : String} {e : Array Edge}
    (h : wpList P ops Q ({ dst := d, op := .store 44 (.tmp k) (.tmp m), type := ty, pos := p, after := e, guard := none } :: l) a w) : wpList P ops Q ({ dst := d, op := .store 44 (.tmp k) (.tmp m), type := ty, pos := p, after := e, guard := none } :: l) a w := h
set_option maxRecDepth 100000 in
set_option maxHeartbeats 40000000 in
theorem law_once (b : Int) (v : Value) (l : List Opr) (W : World) (hv : Ops W v l) (hl : l.length ≤ 9223372036854775807) (hi : ∀ x ∈ l, OprOk x) :
    Calls Try.prog 4 #[.int .i64 b, v] W fun e W' => e = .returned (.bool true) ∧ Below W.heap.size W W' := by
  obtain ⟨av, cv, rfl, hr⟩ := id hv
  clear hr
  obtain ⟨hm0, hm1⟩ := mod3_bound b 60 (by omega)
  obtain ⟨n, hn⟩ : ∃ n : Nat, 2 + mod3 b 60 = (n : Int) := ⟨(2 + mod3 b 60).toNat, by omega⟩
  have hw1 := mod3_wrap b 60 (by omega) (by omega)
  unfold mod3 at hn hm0 hm1
  have hw2 : wrap64 (2 + (b.tmod 60 + 60).tmod 60) = (n : Int) := by
    rw [← hn]
    generalize (b.tmod 60 + 60).tmod 60 = t at hm0 hm1
    unfold wrap64
    omega
  have hn1 : 1 ≤ n := by generalize (b.tmod 60 + 60).tmod 60 = t at hm0 hm1 hn; omega
  have hn2 : n ≤ 4096 := by generalize (b.tmod 60 + 60).tmod 60 = t at hm0 hm1 hn; omega
  clear hm0 hm1 hn
  go_enter Try.func4, Try.ntmps4
  go_wp2_with fail
  refine (disk_New n W hn1 hn2).mono ?_
  rintro e W1 ⟨p, rfl, hD, b1, hp⟩
  clear hw1 hw2
  go_wp2_with fail
  refine (store_Open_fresh n hD).mono ?_
  rintro e W2 ⟨q, rfl, hS, b2, hqp, hqa, hqb, hqc, hqU⟩
  have b12 : Below W.heap.size W W2 := b1.trans (b2.mono b1.size)
  have r : Run W.heap.size W2 q St.fresh (Dk.fresh n) := ⟨hS, fresh_on n, fun b hb => by
    have h1 := b1.size
    rcases hb with (hb | hb | hb | hb) | hb | hb
    · omega
    · omega
    · omega
    · rw [hqp] at hb; exact hp b (.inl hb)
    · rw [hqU] at hb; exact hb.elim
    · rw [hqp] at hb; exact hp b (.inr hb)⟩
  clear hS hD b1 b2 hp hqp hqa hqb hqc hqU
  go_wp2_with fail
  refine (law_num _ _).mono ?_
  rintro e w' ⟨rfl, rfl⟩
  go_wp2_with fail
  refine (law_num _ _).mono ?_
  rintro e w' ⟨rfl, rfl⟩
  go_wp2_with fail
  refine (law_knows _).mono ?_
  rintro e W3 ⟨rfl, b3⟩
  have r3 := r.keep b3
  have b13 := b12.trans (b3.mono b12.size)
  clear r b12 b3
  go_wp2_with fail
  refine (law_look r3.at_).mono ?_
  rintro e W4 ⟨rfl, b4⟩
  have hZ := Blk.new W4 (#[.string ⟨#[]⟩, .string ⟨#[]⟩, .string ⟨#[]⟩, .string ⟨#[]⟩, .string ⟨#[]⟩, .string ⟨#[]⟩, .string ⟨#[]⟩, .string ⟨#[]⟩, .string ⟨#[]⟩, .string ⟨#[]⟩, .string ⟨#[]⟩, .string ⟨#[]⟩, .string ⟨#[]⟩, .string ⟨#[]⟩, .string ⟨#[]⟩, .string ⟨#[]⟩, .string ⟨#[]⟩, .string ⟨#[]⟩, .bool false, .bool false, .bool false, .bool false, .bool false, .bool false, .bool false, .bool false, .bool false, .bool false, .bool false, .bool false, .bool false, .bool false, .bool false, .bool false, .bool false, .bool false, .bool false, .bool false, .bool false, .int .i64 0, .int .i64 0, .int .i64 0]) 44
  have bz := (Below.refl W4.heap.size W4).alloc (Nat.le_refl _) (.cells (#[.string ⟨#[]⟩, .string ⟨#[]⟩, .string ⟨#[]⟩, .string ⟨#[]⟩, .string ⟨#[]⟩, .string ⟨#[]⟩, .string ⟨#[]⟩, .string ⟨#[]⟩, .string ⟨#[]⟩, .string ⟨#[]⟩, .string ⟨#[]⟩, .string ⟨#[]⟩, .string ⟨#[]⟩, .string ⟨#[]⟩, .string ⟨#[]⟩, .string ⟨#[]⟩, .string ⟨#[]⟩, .string ⟨#[]⟩, .bool false, .bool false, .bool false, .bool false, .bool false, .bool false, .bool false, .bool false, .bool false, .bool false, .bool false, .bool false, .bool false, .bool false, .bool false, .bool false, .bool false, .bool false, .bool false, .bool false, .bool false, .int .i64 0, .int .i64 0, .int .i64 0]) 44)
  have h5 : OnceAt W ((W4.alloc (.cells (#[.string ⟨#[]⟩, .string ⟨#[]⟩, .string ⟨#[]⟩, .string ⟨#[]⟩, .string ⟨#[]⟩, .string ⟨#[]⟩, .string ⟨#[]⟩, .string ⟨#[]⟩, .string ⟨#[]⟩, .string ⟨#[]⟩, .string ⟨#[]⟩, .string ⟨#[]⟩, .string ⟨#[]⟩, .string ⟨#[]⟩, .string ⟨#[]⟩, .string ⟨#[]⟩, .string ⟨#[]⟩, .string ⟨#[]⟩, .bool false, .bool false, .bool false, .bool false, .bool false, .bool false, .bool false, .bool false, .bool false, .bool false, .bool false, .bool false, .bool false, .bool false, .bool false, .bool false, .bool false, .bool false, .bool false, .bool false, .bool false, .int .i64 0, .int .i64 0, .int .i64 0]) 44)).setRow W4.heap.size (told St.fresh)) q St.fresh (Dk.fresh n) W4.heap.size St.fresh := by
    have r5 := (r3.keep b4).keep bz
    have bb := (b13.trans (b4.mono b13.size)).trans (bz.mono (Nat.le_trans b13.size b4.size))
    have hx : Ext (fun b => b = W4.heap.size) (W4.alloc (.cells (#[.string ⟨#[]⟩, .string ⟨#[]⟩, .string ⟨#[]⟩, .string ⟨#[]⟩, .string ⟨#[]⟩, .string ⟨#[]⟩, .string ⟨#[]⟩, .string ⟨#[]⟩, .string ⟨#[]⟩, .string ⟨#[]⟩, .string ⟨#[]⟩, .string ⟨#[]⟩, .string ⟨#[]⟩, .string ⟨#[]⟩, .string ⟨#[]⟩, .string ⟨#[]⟩, .string ⟨#[]⟩, .string ⟨#[]⟩, .bool false, .bool false, .bool false, .bool false, .bool false, .bool false, .bool false, .bool false, .bool false, .bool false, .bool false, .bool false, .bool false, .bool false, .bool false, .bool false, .bool false, .bool false, .bool false, .bool false, .bool false, .int .i64 0, .int .i64 0, .int .i64 0]) 44)) ((W4.alloc (.cells (#[.string ⟨#[]⟩, .string ⟨#[]⟩, .string ⟨#[]⟩, .string ⟨#[]⟩, .string ⟨#[]⟩, .string ⟨#[]⟩, .string ⟨#[]⟩, .string ⟨#[]⟩, .string ⟨#[]⟩, .string ⟨#[]⟩, .string ⟨#[]⟩, .string ⟨#[]⟩, .string ⟨#[]⟩, .string ⟨#[]⟩, .string ⟨#[]⟩, .string ⟨#[]⟩, .string ⟨#[]⟩, .string ⟨#[]⟩, .bool false, .bool false, .bool false, .bool false, .bool false, .bool false, .bool false, .bool false, .bool false, .bool false, .bool false, .bool false, .bool false, .bool false, .bool false, .bool false, .bool false, .bool false, .bool false, .bool false, .bool false, .int .i64 0, .int .i64 0, .int .i64 0]) 44)).setRow W4.heap.size (told St.fresh)) := (Ext.refl (fun b => b = W4.heap.size) _).grown (setRow_grown _ _ _) (fun k h => by cases h; exact .inl rfl)
    have hnq : ¬ q.all W4.heap.size := fun hq => by have := (r3.keep b4).at_.size hq; omega
    have hle : W.heap.size ≤ W4.heap.size := Nat.le_trans b13.size b4.size
    exact ⟨r5.at_.ext hx (fun b e hq => hnq (e ▸ hq)), r5.on, hZ.setRow _, hnq, fun b hb => hb.elim (r5.new b) (fun e => by omega), bb.trans (hx.belowOf bb.size (fun b hb e => by omega))⟩
  clear r3 b13 b4 bz
  go_wp2_with (refine wpList_store_row rfl 44 _ _ rfl W4.heap.size (told St.fresh) rfl rfl 44 _ hZ (by rw [told_size]; exact size_told) (by rw [told_size]; rfl) (told_all _) ?_)
  clear hZ
  generalize (W4.alloc (.cells (#[.string ⟨#[]⟩, .string ⟨#[]⟩, .string ⟨#[]⟩, .string ⟨#[]⟩, .string ⟨#[]⟩, .string ⟨#[]⟩, .string ⟨#[]⟩, .string ⟨#[]⟩, .string ⟨#[]⟩, .string ⟨#[]⟩, .string ⟨#[]⟩, .string ⟨#[]⟩, .string ⟨#[]⟩, .string ⟨#[]⟩, .string ⟨#[]⟩, .string ⟨#[]⟩, .string ⟨#[]⟩, .string ⟨#[]⟩, .bool false, .bool false, .bool false, .bool false, .bool false, .bool false, .bool false, .bool false, .bool false, .bool false, .bool false, .bool false, .bool false, .bool false, .bool false, .bool false, .bool false, .bool false, .bool false, .bool false, .bool false, .int .i64 0, .int .i64 0, .int .i64 0]) 44)).setRow W4.heap.size (told St.fresh) = W5 at *
  generalize W4.heap.size = TW at *
  go_loopw [10, 11] (fun ok i wr => ∃ (k : Nat) (q' : StP) (S : St) (D : Dk), k ≤ l.length ∧ i = .int .i64 (k : Int) ∧ ok = .bool true ∧ q'.s = q.s ∧ OnceAt W wr q' S D TW S) (fun _ i _ => l.length - (intOf i).toNat)
  case atStart => exact ⟨0, q, St.fresh, Dk.fresh n, by omega, rfl, rfl, rfl, h5⟩
  case round =>
    obtain ⟨k, q', S, D, hk, rfl, rfl, hqs, hO⟩ := hrel
    clear h5
    by_cases hlt : k < l.length
    · have hd1 : decide ((k : Int) < (l.length : Int)) = true := decide_eq_true (by omega)
      obtain ⟨o, ho⟩ : ∃ o, l[k]? = some o := ⟨l[k], by simp⟩
      have hoo := hi o (List.mem_of_getElem? ho)
      obtain ⟨_, _, e0, hr⟩ := id hv
      obtain ⟨g, f, e1, hop⟩ := hr k o ho
      injection e0 with e0 e02 e03
      clear e02 hr ho
      subst e03
      rw [e1] at e0
      clear e1
      subst e0
      obtain ⟨bv, lv, c0, c1, c2, c3, c4, c5, c6, c7, hb, hL⟩ := hop.open2 hO.below
      obtain ⟨od, ol, op, on, orp, ob, os, oll⟩ := o
      obtain ⟨bg, bc, rfl⟩ := hb.form
      obtain ⟨lg, lc, rfl, hL2⟩ := hL
      clear hL2 hop hv
      simp only at c0 c1 c2 c3 c4 c5 c6 c7 hb
      have b6 : Below wr.heap.size wr (wr.alloc (.cells #[.int .i64 od, .int .i64 ol, .int .i64 op, .int .i64 on, .bool orp, .slice bg ob.length bc, .int .i64 os, .slice lg oll.length lc] 48)) := (Below.refl _ wr).alloc (Nat.le_refl _) _
      have h6 := hO.keep b6
      have bE := Blk.new wr #[.int .i64 od, .int .i64 ol, .int .i64 op, .int .i64 on, .bool orp, .slice bg ob.length bc, .int .i64 os, .slice lg oll.length lc] 48
      have hTO := hid (show TW ≠ wr.heap.size ∧ ∀ b, q'.all b → b ≠ wr.heap.size from ⟨by have := hO.was.lt; omega, fun b hb e => by have := hO.st.size hb; omega⟩)
      clear b6 hO
      by_cases h4 : od = 4
      · have hb4 : (od == 4) = true := beq_iff_eq.2 h4
        have H6 := hid h6
        clear h4 bE h6
        go_wp2_with fail
        go_roundw
        case rel => exact ⟨k + 1, _, _, _, by omega, by go_num, rfl, hqs, H6.out⟩
        case measure => simp [intOf]; omega
      have hb4 : (od == 4) = false := beq_eq_false_iff_ne.2 h4
      by_cases h5 : od = 5
      · have hb5 : (od == 5) = true := beq_iff_eq.2 h5
        have H6 := hid h6
        clear h4 h5 bE h6
        go_wp2_with fail
        go_roundw
        case rel => exact ⟨k + 1, _, _, _, by omega, by go_num, rfl, hqs, H6.out⟩
        case measure => simp [intOf]; omega
      have hb5 : (od == 5) = false := beq_eq_false_iff_ne.2 h5
      clear h4 h5
      have hFr := store_Free h6.st
      rw [hqs] at hFr
      have HFr := hid hFr
      have H6 := hid (And.intro h6 (And.intro bE (And.intro hb hoo)))
      clear hFr h6 bE hb hoo
      go_wp2_with fail
      refine HFr.out.mono ?_
      rintro e W7 ⟨rfl, b7⟩
      have h7 := H6.out.1.keep b7
      have bE7 := H6.out.2.1.keep b7
      have hc := law_call h7.st h7.on _ H6.out.2.2.2 (.slice bg ob.length bc) (.slice lg oll.length lc) (H6.out.2.2.1.keep h7.below)
      rw [hqs] at hc
      have HC := hid hc
      have e0 := bE7.cell (o := 0) rfl
      have e1 := bE7.cell (o := 1) rfl
      have e2 := bE7.cell (o := 2) rfl
      have e3 := bE7.cell (o := 3) rfl
      have e4 := bE7.cell (o := 4) rfl
      have e5 := bE7.cell (o := 5) rfl
      have e6 := bE7.cell (o := 6) rfl
      have e7 := bE7.cell (o := 7) rfl
      have H7 := hid (And.intro h7 bE7)
      clear hc HFr h7 bE7 b7 c0 c1 c2 c3 c4 c5 c6 c7
      go_wp2_with fail
      refine HC.out.mono ?_
      rintro e W8 hpost
      have HQ := hid hpost.2
      obtain ⟨rfl, _⟩ := hpost
      clear HC e0 e1 e2 e3 e4 e5 e6 e7
      have hx8 := HQ.out.2
      obtain ⟨qn, a1, a2⟩ := HQ.out.1
      have h8 := H7.out.1.went a1 (callF_on H7.out.1.on _) a2 hx8
      have bE8 := H7.out.2.ext hx8 (fun h => hTO.out.2 _ (.inl h) rfl)
      have hqn : qn.s = q.s := a2.1.trans hqs
      have hst := hid (once_step S D ⟨od, ol, op, on, orp, ob, os, oll⟩)
      have hcd := hid (once_code S D ⟨od, ol, op, on, orp, ob, os, oll⟩)
      clear hx8 a1 a2 HQ H7 H6
      generalize (callF S D ⟨od, ol, op, on, orp, ob, os, oll⟩).1 = G at *
      generalize (callF S D ⟨od, ol, op, on, orp, ob, os, oll⟩).2.1 = S' at *
      generalize (callF S D ⟨od, ol, op, on, orp, ob, os, oll⟩).2.2 = D' at *
      have hL := law_look h8.st
      rw [hqn] at hL
      have HL := hid hL
      have H8 := hid (And.intro h8 bE8)
      clear hL h8 bE8
      go_wp2_with fail
      refine HL.out.mono ?_
      rintro e W9 ⟨rfl, b9⟩
      have h9 := H8.out.1.keep b9
      have bE9 := H8.out.2.keep b9
      have hZ := Blk.new W9 (#[.string ⟨#[]⟩, .string ⟨#[]⟩, .string ⟨#[]⟩, .string ⟨#[]⟩, .string ⟨#[]⟩, .string ⟨#[]⟩, .string ⟨#[]⟩, .string ⟨#[]⟩, .string ⟨#[]⟩, .string ⟨#[]⟩, .string ⟨#[]⟩, .string ⟨#[]⟩, .string ⟨#[]⟩, .string ⟨#[]⟩, .string ⟨#[]⟩, .string ⟨#[]⟩, .string ⟨#[]⟩, .string ⟨#[]⟩, .bool false, .bool false, .bool false, .bool false, .bool false, .bool false, .bool false, .bool false, .bool false, .bool false, .bool false, .bool false, .bool false, .bool false, .bool false, .bool false, .bool false, .bool false, .bool false, .bool false, .bool false, .int .i64 0, .int .i64 0, .int .i64 0]) 44
      have bz := (Below.refl W9.heap.size W9).alloc (Nat.le_refl _) (.cells (#[.string ⟨#[]⟩, .string ⟨#[]⟩, .string ⟨#[]⟩, .string ⟨#[]⟩, .string ⟨#[]⟩, .string ⟨#[]⟩, .string ⟨#[]⟩, .string ⟨#[]⟩, .string ⟨#[]⟩, .string ⟨#[]⟩, .string ⟨#[]⟩, .string ⟨#[]⟩, .string ⟨#[]⟩, .string ⟨#[]⟩, .string ⟨#[]⟩, .string ⟨#[]⟩, .string ⟨#[]⟩, .string ⟨#[]⟩, .bool false, .bool false, .bool false, .bool false, .bool false, .bool false, .bool false, .bool false, .bool false, .bool false, .bool false, .bool false, .bool false, .bool false, .bool false, .bool false, .bool false, .bool false, .bool false, .bool false, .bool false, .int .i64 0, .int .i64 0, .int .i64 0]) 44)
      have hx : Ext (fun b => b = W9.heap.size) (W9.alloc (.cells (#[.string ⟨#[]⟩, .string ⟨#[]⟩, .string ⟨#[]⟩, .string ⟨#[]⟩, .string ⟨#[]⟩, .string ⟨#[]⟩, .string ⟨#[]⟩, .string ⟨#[]⟩, .string ⟨#[]⟩, .string ⟨#[]⟩, .string ⟨#[]⟩, .string ⟨#[]⟩, .string ⟨#[]⟩, .string ⟨#[]⟩, .string ⟨#[]⟩, .string ⟨#[]⟩, .string ⟨#[]⟩, .string ⟨#[]⟩, .bool false, .bool false, .bool false, .bool false, .bool false, .bool false, .bool false, .bool false, .bool false, .bool false, .bool false, .bool false, .bool false, .bool false, .bool false, .bool false, .bool false, .bool false, .bool false, .bool false, .bool false, .int .i64 0, .int .i64 0, .int .i64 0]) 44)) ((W9.alloc (.cells (#[.string ⟨#[]⟩, .string ⟨#[]⟩, .string ⟨#[]⟩, .string ⟨#[]⟩, .string ⟨#[]⟩, .string ⟨#[]⟩, .string ⟨#[]⟩, .string ⟨#[]⟩, .string ⟨#[]⟩, .string ⟨#[]⟩, .string ⟨#[]⟩, .string ⟨#[]⟩, .string ⟨#[]⟩, .string ⟨#[]⟩, .string ⟨#[]⟩, .string ⟨#[]⟩, .string ⟨#[]⟩, .string ⟨#[]⟩, .bool false, .bool false, .bool false, .bool false, .bool false, .bool false, .bool false, .bool false, .bool false, .bool false, .bool false, .bool false, .bool false, .bool false, .bool false, .bool false, .bool false, .bool false, .bool false, .bool false, .bool false, .int .i64 0, .int .i64 0, .int .i64 0]) 44)).setRow W9.heap.size (told S')) := (Ext.refl (fun b => b = W9.heap.size) _).grown (setRow_grown _ _ _) (fun k h => by cases h; exact .inl rfl)
      have h10 : OnceAt W ((W9.alloc (.cells (#[.string ⟨#[]⟩, .string ⟨#[]⟩, .string ⟨#[]⟩, .string ⟨#[]⟩, .string ⟨#[]⟩, .string ⟨#[]⟩, .string ⟨#[]⟩, .string ⟨#[]⟩, .string ⟨#[]⟩, .string ⟨#[]⟩, .string ⟨#[]⟩, .string ⟨#[]⟩, .string ⟨#[]⟩, .string ⟨#[]⟩, .string ⟨#[]⟩, .string ⟨#[]⟩, .string ⟨#[]⟩, .string ⟨#[]⟩, .bool false, .bool false, .bool false, .bool false, .bool false, .bool false, .bool false, .bool false, .bool false, .bool false, .bool false, .bool false, .bool false, .bool false, .bool false, .bool false, .bool false, .bool false, .bool false, .bool false, .bool false, .int .i64 0, .int .i64 0, .int .i64 0]) 44)).setRow W9.heap.size (told S')) qn S' D' TW S := by
        have h9z := h9.keep bz
        have hlt9 := h9.below.size
        have hw9 := h9.was.lt
        exact ⟨h9z.st.ext hx (fun b e hq => by have := h9.st.size hq; omega), h9z.on, h9z.was.ext hx (by omega), h9z.out, h9z.new, h9z.below.trans (hx.belowOf h9z.below.size (fun b hb e => by omega))⟩
      have hI : InAt ((W9.alloc (.cells (#[.string ⟨#[]⟩, .string ⟨#[]⟩, .string ⟨#[]⟩, .string ⟨#[]⟩, .string ⟨#[]⟩, .string ⟨#[]⟩, .string ⟨#[]⟩, .string ⟨#[]⟩, .string ⟨#[]⟩, .string ⟨#[]⟩, .string ⟨#[]⟩, .string ⟨#[]⟩, .string ⟨#[]⟩, .string ⟨#[]⟩, .string ⟨#[]⟩, .string ⟨#[]⟩, .string ⟨#[]⟩, .string ⟨#[]⟩, .bool false, .bool false, .bool false, .bool false, .bool false, .bool false, .bool false, .bool false, .bool false, .bool false, .bool false, .bool false, .bool false, .bool false, .bool false, .bool false, .bool false, .bool false, .bool false, .bool false, .bool false, .int .i64 0, .int .i64 0, .int .i64 0]) 44)).setRow W9.heap.size (told S')) TW W9.heap.size wr.heap.size S S' #[.int .i64 od, .int .i64 ol, .int .i64 op, .int .i64 on, .bool orp, .slice bg ob.length bc, .int .i64 os, .slice lg oll.length lc] := ⟨h10.was, hZ.setRow _, (bE9.keep bz).ext hx (by have := bE9.lt; omega)⟩
      have H10 := hid (And.intro h10 hI)
      clear h10 hI hx bz h9 bE9 H8 HL b9
      go_wp2_with (refine wpList_store_row rfl 44 _ _ rfl W9.heap.size (told S') rfl rfl 44 _ hZ (by rw [told_size]; exact size_told) (by rw [told_size]; rfl) (told_all _) ?_)
      clear hZ
      obtain ⟨h10, hI⟩ := H10.out
      clear H10
      generalize (W9.alloc (.cells (#[.string ⟨#[]⟩, .string ⟨#[]⟩, .string ⟨#[]⟩, .string ⟨#[]⟩, .string ⟨#[]⟩, .string ⟨#[]⟩, .string ⟨#[]⟩, .string ⟨#[]⟩, .string ⟨#[]⟩, .string ⟨#[]⟩, .string ⟨#[]⟩, .string ⟨#[]⟩, .string ⟨#[]⟩, .string ⟨#[]⟩, .string ⟨#[]⟩, .string ⟨#[]⟩, .string ⟨#[]⟩, .string ⟨#[]⟩, .bool false, .bool false, .bool false, .bool false, .bool false, .bool false, .bool false, .bool false, .bool false, .bool false, .bool false, .bool false, .bool false, .bool false, .bool false, .bool false, .bool false, .bool false, .bool false, .bool false, .bool false, .int .i64 0, .int .i64 0, .int .i64 0]) 44)).setRow W9.heap.size (told S') = W10 at *
      generalize W9.heap.size = TN at *
      generalize hTOe : wr.heap.size = TO at *
      clear hTOe
      go_loopw [17] (fun a wr => ∃ na : Nat, na ≤ 3 ∧ a = .int .i64 (na : Int) ∧ OnceAt W wr qn S' D' TW S ∧ InAt wr TW TN TO S S' #[.int .i64 od, .int .i64 ol, .int .i64 op, .int .i64 on, .bool orp, .slice bg ob.length bc, .int .i64 os, .slice lg oll.length lc]) (fun a _ => 3 - (intOf a).toNat)
      case atStart => exact ⟨0, by omega, rfl, h10, hI⟩
      case round =>
        obtain ⟨na, hna, rfl, hA, hIA⟩ := hrel
        clear h10 hI
        by_cases hna3 : na < 3
        · have hda : decide ((na : Int) < 3) = true := decide_eq_true (by omega)
          have HA0 := hid (And.intro hA hIA)
          clear hA hIA
          go_wp2_with fail
          obtain ⟨hA, hIA⟩ := HA0.out
          clear HA0
          go_loopw [18] (fun bb wr => ∃ nb : Nat, nb ≤ 6 ∧ bb = .int .i64 (nb : Int) ∧ OnceAt W wr qn S' D' TW S ∧ InAt wr TW TN TO S S' #[.int .i64 od, .int .i64 ol, .int .i64 op, .int .i64 on, .bool orp, .slice bg ob.length bc, .int .i64 os, .slice lg oll.length lc]) (fun bb _ => 6 - (intOf bb).toNat)
          case atStart => exact ⟨0, by omega, rfl, hA, hIA⟩
          case round =>
            obtain ⟨nb, hnb, rfl, hB, hIB⟩ := hrel
            clear hA hIA
            have hn3 : (na : Int) < 3 := by omega
            by_cases hnb6 : nb < 6
            · have hdb : decide ((nb : Int) < 6) = true := decide_eq_true (by omega)
              have hn6 : (nb : Int) < 6 := by omega
              cases h1 : thB S na nb
              · cases h2 : thB S' na nb
                · as_aux_lemma =>
                  have t1 := hIB.wThere na nb hna3 hnb6
                  have t2 := hIB.nThere na nb hna3 hnb6
                  have t3 := hIB.wData na nb hna3 hnb6
                  have t4 := hIB.nData na nb hna3 hnb6
                  have t5 := hIB.nTrim na hna3
                  have t6 := hIB.wSealed na hna3
                  have t7 := hIB.op.cell (o := 4) rfl
                  rw [h1] at t1
                  rw [h2] at t2
                  have H12 := hid (And.intro h1 h2)
                  clear h1 h2
                  have HB := hid (And.intro hB hIB)
                  clear hB hIB
                  go_wp2_with fail
                  go_quiet (fail)
                  obtain ⟨hB0, hIB0⟩ := HB.out
                  have hB := hB0.keep (below_of_drewN _ _ nq)
                  have hIB := hIB0.keep (below_of_drewN _ _ nq)
                  clear hB0 hIB0 HB t1 t2 t3 t4 t5 t6 t7
                  generalize wr.drewN nq = wq at *
                  have t1 := hIB.wThere na nb hna3 hnb6
                  have t2 := hIB.nThere na nb hna3 hnb6
                  have t3 := hIB.wData na nb hna3 hnb6
                  have t4 := hIB.nData na nb hna3 hnb6
                  have t5 := hIB.nTrim na hna3
                  have t6 := hIB.wSealed na hna3
                  have t7 := hIB.op.cell (o := 4) rfl
                  rw [H12.out.1] at t1
                  rw [H12.out.2] at t2
                  have HB := hid (And.intro hB hIB)
                  clear hB hIB t3 t4 t5
                  cases hsl : (S.get (na : Nat)).2.2
                  all_goals
                    rw [hsl] at t6
                    clear hsl
                    cases orp
                    all_goals
                      go_wp2_with fail
                      go_roundw
                      case rel => exact ⟨nb + 1, by omega, by go_num, HB.out.1, HB.out.2⟩
                      case measure => simp [intOf]; omega
                · as_aux_lemma =>
                  have hse : (S.get (na : Nat)).2.2 = false ∨ orp = true := by
                    cases hs : (S.get (na : Nat)).2.2
                    · exact .inl rfl
                    · cases hr : orp
                      · have := once_new hst.out hs hr h1; rw [h2] at this; cases this
                      · exact .inr rfl
                  have t1 := hIB.wThere na nb hna3 hnb6
                  have t2 := hIB.nThere na nb hna3 hnb6
                  have t3 := hIB.wData na nb hna3 hnb6
                  have t4 := hIB.nData na nb hna3 hnb6
                  have t5 := hIB.nTrim na hna3
                  have t6 := hIB.wSealed na hna3
                  have t7 := hIB.op.cell (o := 4) rfl
                  rw [h1] at t1
                  rw [h2] at t2
                  have H12 := hid (And.intro h1 h2)
                  clear h1 h2
                  have HB := hid (And.intro hB hIB)
                  clear hB hIB
                  go_wp2_with fail
                  go_quiet (fail)
                  obtain ⟨hB0, hIB0⟩ := HB.out
                  have hB := hB0.keep (below_of_drewN _ _ nq)
                  have hIB := hIB0.keep (below_of_drewN _ _ nq)
                  clear hB0 hIB0 HB t1 t2 t3 t4 t5 t6 t7
                  generalize wr.drewN nq = wq at *
                  have t1 := hIB.wThere na nb hna3 hnb6
                  have t2 := hIB.nThere na nb hna3 hnb6
                  have t3 := hIB.wData na nb hna3 hnb6
                  have t4 := hIB.nData na nb hna3 hnb6
                  have t5 := hIB.nTrim na hna3
                  have t6 := hIB.wSealed na hna3
                  have t7 := hIB.op.cell (o := 4) rfl
                  rw [H12.out.1] at t1
                  rw [H12.out.2] at t2
                  have HB := hid (And.intro hB hIB)
                  clear hB hIB t3 t4 t5
                  have Hse := hid hse
                  clear hse
                  rcases Hse.out with hs | hs
                  · rw [hs] at t6
                    clear hs Hse
                    go_wp2_with fail
                    go_roundw
                    case rel => exact ⟨nb + 1, by omega, by go_num, HB.out.1, HB.out.2⟩
                    case measure => simp [intOf]; omega
                  · cases hs
                    cases hsl : (S.get (na : Nat)).2.2
                    all_goals
                      rw [hsl] at t6
                      clear hsl
                      go_wp2_with fail
                      go_roundw
                      case rel => exact ⟨nb + 1, by omega, by go_num, HB.out.1, HB.out.2⟩
                      case measure => simp [intOf]; omega
              · cases h2 : thB S' na nb
                · as_aux_lemma =>
                  have hgone := once_gone hst.out h1 h2
                  have t1 := hIB.wThere na nb hna3 hnb6
                  have t2 := hIB.nThere na nb hna3 hnb6
                  have t3 := hIB.wData na nb hna3 hnb6
                  have t4 := hIB.nData na nb hna3 hnb6
                  have t5 := hIB.nTrim na hna3
                  have t6 := hIB.wSealed na hna3
                  have t7 := hIB.op.cell (o := 4) rfl
                  rw [h1] at t1
                  rw [h2] at t2
                  have H12 := hid (And.intro h1 h2)
                  clear h1 h2
                  have HB := hid (And.intro hB hIB)
                  clear hB hIB
                  go_wp2_with fail
                  go_quiet (fail)
                  obtain ⟨hB0, hIB0⟩ := HB.out
                  have hB := hB0.keep (below_of_drewN _ _ nq)
                  have hIB := hIB0.keep (below_of_drewN _ _ nq)
                  clear hB0 hIB0 HB t1 t2 t3 t4 t5 t6 t7
                  generalize wr.drewN nq = wq at *
                  have t1 := hIB.wThere na nb hna3 hnb6
                  have t2 := hIB.nThere na nb hna3 hnb6
                  have t3 := hIB.wData na nb hna3 hnb6
                  have t4 := hIB.nData na nb hna3 hnb6
                  have t5 := hIB.nTrim na hna3
                  have t6 := hIB.wSealed na hna3
                  have t7 := hIB.op.cell (o := 4) rfl
                  rw [H12.out.1] at t1
                  rw [H12.out.2] at t2
                  have HB := hid (And.intro hB hIB)
                  clear hB hIB t3 t4 t5
                  cases hsl : (S.get (na : Nat)).2.2
                  all_goals
                    rw [hsl] at t6
                    clear hsl
                    cases orp
                    all_goals
                      go_wp2_with fail
                      go_roundw
                      case rel => exact ⟨nb + 1, by omega, by go_num, HB.out.1, HB.out.2⟩
                      case measure => simp [intOf]; omega
                · as_aux_lemma =>
                  have hdat := hid (once_data hst.out h1 h2)
                  have t1 := hIB.wThere na nb hna3 hnb6
                  have t2 := hIB.nThere na nb hna3 hnb6
                  have t3 := hIB.wData na nb hna3 hnb6
                  have t4 := hIB.nData na nb hna3 hnb6
                  have t5 := hIB.nTrim na hna3
                  have t6 := hIB.wSealed na hna3
                  have t7 := hIB.op.cell (o := 4) rfl
                  rw [h1] at t1
                  rw [h2] at t2
                  rw [hdat.out] at t4
                  have H12 := hid (And.intro h1 h2)
                  clear h1 h2
                  have HB := hid (And.intro hB hIB)
                  clear hB hIB
                  go_wp2_with fail
                  go_quiet (fail)
                  obtain ⟨hB0, hIB0⟩ := HB.out
                  have hB := hB0.keep (below_of_drewN _ _ nq)
                  have hIB := hIB0.keep (below_of_drewN _ _ nq)
                  clear hB0 hIB0 HB t1 t2 t3 t4 t5 t6 t7
                  generalize wr.drewN nq = wq at *
                  have t1 := hIB.wThere na nb hna3 hnb6
                  have t2 := hIB.nThere na nb hna3 hnb6
                  have t3 := hIB.wData na nb hna3 hnb6
                  have t4 := hIB.nData na nb hna3 hnb6
                  have t5 := hIB.nTrim na hna3
                  have t6 := hIB.wSealed na hna3
                  have t7 := hIB.op.cell (o := 4) rfl
                  rw [H12.out.1] at t1
                  rw [H12.out.2] at t2
                  have HB := hid (And.intro hB hIB)
                  clear hB hIB t3 t4 t5
                  cases hsl : (S.get (na : Nat)).2.2
                  all_goals
                    rw [hsl] at t6
                    clear hsl
                    cases orp
                    all_goals
                      go_wp2_with fail
                      go_roundw
                      case rel => exact ⟨nb + 1, by omega, by go_num, HB.out.1, HB.out.2⟩
                      case measure => simp [intOf]; omega
            · as_aux_lemma =>
              obtain rfl : nb = 6 := by omega
              have hdb : decide (((6 : Nat) : Int) < 6) = false := by decide
              have t5 := hIB.nTrim na hna3
              have t6 := hIB.wSealed na hna3
              have t8 := hIB.nSealed na hna3
              have t9 := hIB.wTrim na hna3
              have htr := hst.out.trim (na : Nat)
              have hse := hid (hst.out.sealed (na : Nat))
              have HB := hid (And.intro hB hIB)
              clear hB hIB
              cases hsl : (S.get (na : Nat)).2.2
              · rw [hsl] at t6
                clear hsl
                go_wp2_with fail
                go_quiet (fail)
                go_wp2_with fail
                go_roundw
                case rel => exact ⟨na + 1, by omega, by go_num, HB.out.1.keep (below_of_drewN _ _ nq), HB.out.2.keep (below_of_drewN _ _ nq)⟩
                case measure => simp [intOf]; omega
              · rw [hsl] at t6
                rw [hse.out hsl] at t8
                clear hsl
                go_wp2_with fail
                go_quiet (fail)
                go_wp2_with fail
                go_roundw
                case rel => exact ⟨na + 1, by omega, by go_num, HB.out.1.keep (below_of_drewN _ _ nq), HB.out.2.keep (below_of_drewN _ _ nq)⟩
                case measure => simp [intOf]; omega
        · as_aux_lemma =>
          obtain rfl : na = 3 := by omega
          have hda : decide (((3 : Nat) : Int) < 3) = false := by decide
          have kW := hIA.was
          have kN := hIA.now
          have Hset := hid (hA.set S')
          by_cases hG : G = 0
          · subst hG
            clear hA hIA
            go_wp2_with (first | ((with_reducible (refine id_load ?_)); (refine wpList_load_row rfl 44 _ rfl TN rfl 44 (told S') (0, 0) _ kN rfl rfl (by rw [told_size]; exact size_told) ?_)) | ((with_reducible (refine id_store ?_)); (refine wpList_store_row rfl 44 _ _ rfl TW (told S') rfl rfl 44 _ kW (by rw [told_size]; exact size_told) (by rw [told_size, told_size]) (told_all S') ?_)))
            go_roundw
            case rel => exact ⟨k + 1, qn, S', D', by omega, by go_num, rfl, hqn, Hset.out⟩
            case measure => simp [intOf]; omega
          · obtain ⟨e1, e2⟩ := hcd.out hG
            have hg1 : (G == 0) = false := beq_eq_false_iff_ne.2 hG
            have hg2 : (G != 0) = true := by rw [bne_iff_ne]; exact hG
            have hg3 : decide (G = 0) = false := decide_eq_false hG
            subst e1
            subst e2
            have hFr := store_Free hA.st
            rw [hqn] at hFr
            have HFr := hid hFr
            have HAA := hid hA
            clear hG hA hIA hFr Hset
            go_wp2_with (first | ((with_reducible (refine id_gload ?_)); (first | (refine wpList_wanted (by rfl) (fun K hK => wp_load_row 44 _ rfl TN rfl 44 (told S') (0, 0) _ kN rfl rfl (by rw [told_size]; exact size_told) (hK _ _ ?_))) | (refine wpList_wanted (by rfl) (fun K hK => wp_load_row 44 _ rfl TW rfl 44 (told S') (0, 0) _ kW rfl rfl (by rw [told_size]; exact size_told) (hK _ _ ?_))))) | ((with_reducible (refine id_gneq ?_)); (refine wpList_wanted (by rfl) (fun K hK => wp_neq_same rfl rfl rfl guard_told (same_told _) (hK _ _ ?_)))))
            refine HFr.out.mono ?_
            rintro e W11 ⟨rfl, b11⟩
            have kW2 := kW.keep b11
            have kN2 := kN.keep b11
            have Hset := hid ((HAA.out.keep b11).set S')
            clear kW kN HFr HAA b11
            go_wp2_with (first | ((with_reducible (refine id_load ?_)); (refine wpList_load_row rfl 44 _ rfl TN rfl 44 (told S') (0, 0) _ kN2 rfl rfl (by rw [told_size]; exact size_told) ?_)) | ((with_reducible (refine id_store ?_)); (refine wpList_store_row rfl 44 _ _ rfl TW (told S') rfl rfl 44 _ kW2 (by rw [told_size]; exact size_told) (by rw [told_size]) (told_all S') ?_)))
            go_roundw
            case rel => exact ⟨k + 1, qn, _, _, by omega, by go_num, rfl, hqn, Hset.out⟩
            case measure => simp [intOf]; omega
    · have hd1 : decide ((k : Int) < (l.length : Int)) = false := decide_eq_false (by omega)
      go_wp2_with fail
      go_ret
      exact ⟨rfl, hO.below⟩
end Go.Proofs.Ytbofcocfcmlcaaa
