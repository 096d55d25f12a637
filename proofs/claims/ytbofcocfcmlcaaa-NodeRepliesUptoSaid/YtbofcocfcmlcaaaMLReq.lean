import Derived.Test.YtbofcocfcmlcaaaAsk
import Derived.Test.YtbofcocfcmlcaaaMKnows
import Derived.Lib.ConvBytes
import Derived.Test.YtbofcocfcmlcaaaBase
import Derived.Test.YtbofcocfcmlcaaaMWriteB
/-! Package node: Ask of a node that is up, on any bytes. -/
namespace Go.Proofs.Ytbofcocfcmlcaaa
open Go.RowKit

section
variable {W : World} {n : Nat} {pv : Value} {q : StP} {S : St} {D : Dk}
set_option maxRecDepth 100000 in
set_option maxHeartbeats 1600000 in
theorem node_Ask_none (h : NodeAt W n pv q S D) (v : Value) (b : List UInt8) (hv : Bs W v b) (hl : b.length ≤ 1073741824) (hreq : getReq b = none) :
    Calls Try.prog 38 #[.pointer (some ⟨n, 0, none⟩), v] W fun e w' => ∃ v', e = .returned v' ∧ Own8 w' W.heap.size 5 v' (askF S D b).1 ∧ (∃ q', NodeAt w' n pv q' (askF S D b).2.1 (askF S D b).2.2 ∧ Went q q' W.heap.size) ∧ Ext q.own W w' := by
  have hask : askF S D b = (putRepB 22 0 false [], S, D) := by unfold askF; rw [hreq]
  have HE := hid hask
  clear hask
  obtain ⟨a0, c0, rfl⟩ := hv.form
  have hgr := get_request _ b (W.alloc (.cells #[.int .i64 22, .int .i64 0, .bool false, .slice none 0 0] 60)) (hv.keep ((Below.refl _ W).alloc (Nat.le_refl _) _)) hl
  have b1 : Below W.heap.size W (W.alloc (.cells #[.int .i64 22, .int .i64 0, .bool false, .slice none 0 0] 60)) := (Below.refl _ W).alloc (Nat.le_refl _) _
  have k5 := Blk.new W #[.int .i64 22, .int .i64 0, .bool false, .slice none 0 0] 60
  have h1 := h.keep b1
  have HG := hid hgr
  clear hgr hv
  go_enter Try.func38, Try.ntmps38
  go_wp2_with fail
  refine (node_Up h).mono ?_
  rintro e W9 ⟨rfl, hw⟩
  rw [hw]
  clear hw W9
  go_wp2_with fail
  refine HG.out.mono ?_
  intro e W2 hpost
  unfold ReqPost at hpost
  rw [hreq] at hpost
  obtain ⟨rfl, b2⟩ := hpost
  have b12 : Below W.heap.size W W2 := b1.trans (b2.mono b1.size)
  have b3 : Below W2.heap.size W2 (W2.alloc (.cells #[.int .i64 0, .int .i64 0, .int .i64 0, .slice none 0 0] 57)) := (Below.refl _ W2).alloc (Nat.le_refl _) _
  have b13 : Below W.heap.size W _ := b12.trans (b3.mono b12.size)
  have k9 := (k5.keep b2).keep b3
  have g0 := k9.cell (o := 0) rfl
  have g1 := k9.cell (o := 1) rfl
  have g2 := k9.cell (o := 2) rfl
  have g3 := k9.cell (o := 3) rfl
  have HPR := hid (put_reply 22 0 false (.slice none 0 0) [] (W2.alloc (.cells #[.int .i64 0, .int .i64 0, .int .i64 0, .slice none 0 0] 57)) (Bs.nil _))
  have HB := hid (And.intro b13 h)
  clear HG b1 b2 b3 b12 b13 h h1 k5 k9
  go_wp2_with fail
  refine HPR.out.mono ?_
  rintro e w' ⟨v', c, rfl, ho, hb, _⟩
  have HO := hid (And.intro ho hb)
  clear HPR g0 g1 g2 g3 ho hb
  go_wp2_with fail
  go_ret
  rw [HE.out]
  have hb9 := HB.out.1.trans (HO.out.2.mono HB.out.1.size)
  exact ⟨_, rfl, HO.out.1.mono HB.out.1.size, ⟨q, HB.out.2.keep hb9, Went.refl _ _⟩, Ext.ofBelow hb9⟩

theorem getReq_right {b d : List UInt8} {k lo po : Nat} (h : getReq b = some (k, lo, po, d)) : rightB k lo po d.length = true := by
  unfold getReq at h
  split at h
  · cases h
  · split at h
    · rename_i hr
      simp only [Option.some.injEq, Prod.mk.injEq] at h
      obtain ⟨rfl, rfl, rfl, rfl⟩ := h
      exact hr
    · cases h

theorem node_Ask (h : NodeAt W n pv q S D) (v : Value) (b : List UInt8) (hv : Bs W v b) (hl : b.length ≤ 1073741824) :
    Calls Try.prog 38 #[.pointer (some ⟨n, 0, none⟩), v] W fun e w' => ∃ v', e = .returned v' ∧ Own8 w' W.heap.size 5 v' (askF S D b).1 ∧ (∃ q', NodeAt w' n pv q' (askF S D b).2.1 (askF S D b).2.2 ∧ Went q q' W.heap.size) ∧ Ext q.own W w' := by
  cases hreq : getReq b with
  | none => exact node_Ask_none h v b hv hl hreq
  | some x =>
    obtain ⟨k, lo, po, d⟩ := x
    have hr := of_decide_eq_true (getReq_right hreq)
    obtain ⟨hk1, hk2, l0, l1, p0, p1, hd, _⟩ := hr
    have hk : k = 1 ∨ k = 2 ∨ k = 3 ∨ k = 4 ∨ k = 5 ∨ k = 6 := by omega
    rcases hk with rfl | rfl | rfl | rfl | rfl | rfl
    · exact node_Ask_some h v b hv hl _ lo po d hreq 79 (fun args w => by go_simp) rfl (by decide) (fun W' dv a1 a2 a3 => h_write a1 lo po dv d a2 a3 hd l0 l1 p0 p1)
    · exact node_Ask_some h v b hv hl _ lo po d hreq 80 (fun args w => by go_simp) rfl (by decide) (fun W' dv a1 a2 a3 => h_repair a1 lo po dv d a2 a3 hd l0 l1 p0 p1)
    · exact node_Ask_some h v b hv hl _ lo po d hreq 81 (fun args w => by go_simp) rfl (by decide) (fun W' dv a1 a2 a3 => h_seal a1 lo po dv d a2 a3 hd l0 l1 p0 p1)
    · exact node_Ask_some h v b hv hl _ lo po d hreq 82 (fun args w => by go_simp) rfl (by decide) (fun W' dv a1 a2 a3 => by obtain ⟨ax, cx, rfl⟩ := a2.form; exact h_read a1 lo po ax d cx l0 l1 p0 p1)
    · exact node_Ask_some h v b hv hl _ lo po d hreq 83 (fun args w => by go_simp) rfl (by decide) (fun W' dv a1 a2 a3 => by obtain ⟨ax, cx, rfl⟩ := a2.form; exact h_look a1 lo po ax d cx)
    · exact node_Ask_some h v b hv hl _ lo po d hreq 84 (fun args w => by go_simp) rfl (by decide) (fun W' dv a1 a2 a3 => h_trim a1 lo po dv d a2 a3 hd l0 l1 p0 p1)
end
end Go.Proofs.Ytbofcocfcmlcaaa

/-! Package node: New. -/
namespace Go.Proofs.Ytbofcocfcmlcaaa
open Go.RowKit

set_option maxRecDepth 100000 in
set_option maxHeartbeats 1600000 in
theorem node_New (k : Nat) (W : World) (h1 : 1 ≤ k) (h2 : k ≤ 4096) :
    Calls Try.prog 37 #[.int .i64 (k : Int)] W fun e w' => ∃ n pv q, e = .returned (.tuple #[.pointer (some ⟨n, 0, none⟩), .int .i64 0]) ∧ NodeAt w' n pv q St.fresh (Dk.fresh k) ∧ Below W.heap.size W w' ∧ W.heap.size ≤ n ∧ (∀ b, q.all b → W.heap.size ≤ b) := by
  go_enter Try.func37, Try.ntmps37
  go_wp2_with fail
  refine (disk_New k W h1 h2).mono ?_
  rintro e W1 ⟨p, rfl, hD, b1, hp⟩
  have hN := Blk.new W1 #[.pointer (some ⟨p.d, 0, none⟩), .pointer none] 135
  have b2 : Below W1.heap.size W1 (W1.alloc (.cells #[.pointer (some ⟨p.d, 0, none⟩), .pointer none] 135)) := (Below.refl _ W1).alloc (Nat.le_refl _) _
  have hD2 := hD.keep b2
  have hsz : (W1.alloc (.cells #[.pointer (some ⟨p.d, 0, none⟩), .pointer none] 135)).heap.size = W1.heap.size + 1 := by simp
  have HD := hid (And.intro hD2 (And.intro hN (And.intro b2 hsz)))
  have hps : ∀ b, p.all b → b < W1.heap.size := fun b hb => hD.lt hb
  clear hD hN b2 hD2 hsz
  go_wp2_with fail
  refine (store_Open_fresh k HD.out.1).mono ?_
  rintro e W2 ⟨q, rfl, hS, b3, hqp, hqa, hqb, hqc, hqU⟩
  have hsz := HD.out.2.2.2
  have hN := HD.out.2.1.keep b3
  have hb12 : Below W.heap.size W W2 := b1.trans ((HD.out.2.2.1.mono b1.size).trans (b3.mono (Nat.le_trans b1.size HD.out.2.2.1.size)))
  have hqall : ∀ b, q.all b → W.heap.size ≤ b ∧ b ≠ W1.heap.size := by
    intro b hb
    have h1 := b1.size
    rcases hb with (hb | hb | hb | hb) | hb | hb
    · omega
    · omega
    · omega
    · rw [hqp] at hb; have := hps b (.inl hb); exact ⟨hp b (.inl hb), by omega⟩
    · rw [hqU] at hb; exact hb.elim
    · rw [hqp] at hb; have := hps b (.inr hb); exact ⟨hp b (.inr hb), by omega⟩
  have HH := hid (And.intro hS (And.intro hN (And.intro hb12 hqall)))
  have hf := hN.free 1
  have hc := hN.cell (o := 1) rfl
  have hk := hN.set (o := 1) (.pointer (some ⟨q.s, 0, none⟩))
  have hx : Ext (fun b => b = W1.heap.size) W2 (W2.setCell ⟨W1.heap.size, 1, none⟩ (.pointer (some ⟨q.s, 0, none⟩))) := (Ext.refl (fun b => b = W1.heap.size) W2).setCell (.inl rfl) _
  have HX := hid (And.intro hk hx)
  clear hS hN hb12 hqall hk hx b3
  go_wp2_with fail
  go_ret2
  obtain ⟨hS, hN, hb12, hqall⟩ := HH.out
  obtain ⟨hk, hx⟩ := HX.out
  have hle := b1.size
  exact ⟨W1.heap.size, .pointer (some ⟨p.d, 0, none⟩), q, rfl, ⟨by simpa using hk, hS.ext hx (fun b e hq => (hqall b hq).2 e), fresh_on k, fun hq => (hqall _ hq).2 rfl⟩, hb12.trans (hx.belowOf hb12.size (fun b hb e => by omega)), hle, fun b hb => (hqall b hb).1⟩
end Go.Proofs.Ytbofcocfcmlcaaa

/-! gazettelaw05: num, asks. -/
namespace Go.Proofs.Ytbofcocfcmlcaaa
open Go.RowKit

theorem law5_num (e : Int) (w : World) : Calls Try.prog 32 #[.int .i64 e] w fun r w' => r = .returned (.int .i64 e) ∧ w' = w := by
  go_enter Try.func32, Try.ntmps32
  go_wp2_with fail
  go_ret
  exact ⟨rfl, rfl⟩

/-- '[]byte(s)' of any string. -/
theorem str_conv (W : World) (l : List UInt8) (hl : l.length ≤ 9223372036854775807) :
    ∃ W' c, (convert 9 34 (.string ⟨l.toArray⟩)).run Try.prog W = .ok (.slice (some ⟨W.heap.size, 0, none⟩) l.length c) W' ∧ Bs W' (.slice (some ⟨W.heap.size, 0, none⟩) l.length c) l ∧ Below W.heap.size W W' := by
  have h := Lib.run_convert_string_bytes (P := Try.prog) W 9 34 5 ⟨l.toArray⟩ Try.underlying9 Try.underlying34 Try.underlying5
  have hz : (⟨l.toArray⟩ : ByteArray).size = l.length := by simp [ByteArray.size]
  have hcap : grownCap W l.length 0 5 ≤ maxLen := grownCap_le_maxLen W l.length 0 _ (by unfold maxLen; omega)
  have hge := grownCap_ge W l.length 0 5
  rw [hz] at h
  refine ⟨_, _, h, Bs.mk rfl hge hcap (fun i u hi => ?_), ?_⟩
  · have hlt : i < l.length := (List.getElem?_eq_some_iff.1 hi).1
    rw [Nat.zero_add, Lib.bytesWorld_cell W 5 ⟨l.toArray⟩ i (by rw [hz]; exact hlt)]
    simp [List.getD_eq_getElem?_getD, hi, bv]
  · exact Lib.below_freeze (((Below.refl _ W).drew).alloc (Nat.le_refl _) _) (Nat.le_refl _) 1

set_option maxRecDepth 100000 in
set_option maxHeartbeats 1600000 in
theorem law_asks (k lo po : Int) (l : List UInt8) (W : World) (hr : rightB k lo po l.length = true) (s : ByteArray) (hs : s = ⟨l.toArray⟩) :
    Calls Try.prog 78 #[.int .i64 k, .int .i64 lo, .int .i64 po, .string s] W fun e w' => ∃ v', e = .returned v' ∧ Own8 w' W.heap.size 5 v' (frameB 1 (reqB k lo po l)) ∧ Below W.heap.size W w' := by
  subst hs
  have hrr := of_decide_eq_true hr
  obtain ⟨_, _, _, _, _, _, hn, _⟩ := hrr
  obtain ⟨W1, c, h1, hv, b1⟩ := str_conv W l (by omega)
  have HP := hid (put_request k lo po _ l W1 hv hr)
  have HB := hid b1
  clear hv hn hr b1
  go_enter Try.func78, Try.ntmps78
  go_wp2_with fail
  refine HP.out.mono ?_
  rintro e w' ⟨v', rfl, ho, hb⟩
  have HO := hid (And.intro ho hb)
  clear ho hb HP h1
  go_wp2_with fail
  go_ret
  exact ⟨_, rfl, HO.out.1.mono HB.out.size, HB.out.trans (HO.out.2.mono HB.out.size)⟩
end Go.Proofs.Ytbofcocfcmlcaaa

/-! Bytes that came in inside of something else: an empty slice may lie anywhere. No program is named here. -/
namespace Go.Proofs.Ytbofcocfcmlcaaa
open Go.RowKit

def BsW (w : World) (v : Value) (l : List UInt8) : Prop := Bs w v l ∨ (l = [] ∧ ∃ ad, v = .slice (some ad) 0 0)
theorem BsW.form {w : World} {v : Value} {l : List UInt8} (h : BsW w v l) : ∃ a c, v = .slice a l.length c := by
  rcases h with h | ⟨rfl, ad, rfl⟩
  · exact h.form
  · exact ⟨some ad, 0, rfl⟩
theorem BsW.keep {w w' : World} {v : Value} {l : List UInt8} (h : BsW w v l) (hb : Below w.heap.size w w') : BsW w' v l := h.imp (fun h => h.keep hb) id

theorem run_append8w {P : Program} {T E : TypeId} {i : TypeInfo} (ht : P.underlying T = some (.slice E)) (hi : P.info? E = some i) (hz : i.zero = some (.int .u8 0)) (hsz : i.size = 1) (hby : i.bytes = 1) (ty : TypeId)
    {w : World} {base : Nat} {v x : Value} {l m : List UInt8} (hown : Own8 w base E v l) (hx : BsW w x m) (hlen : l.length + m.length ≤ 140737488355328) (hbase : base ≤ w.heap.size) :
    ∃ v' w', (Builtin.append_ #[T, T] ty #[v, x]).run P w = .ok v' w' ∧ Own8 w' base E v' (l ++ m) ∧ w.grownBy w' v.ownBlock := by
  rcases hx with hx | ⟨rfl, ad, rfl⟩
  · obtain ⟨v', w', h1, h2, h3, _⟩ := run_append8 (P := P) ht hi hz hsz hby ty hown hx hlen hbase
    exact ⟨v', w', h1, h2, h3⟩
  · refine ⟨v, w, ?_, by simpa using hown, ⟨rfl, rfl, rfl, Nat.le_refl _, fun _ _ _ => rfl⟩⟩
    rcases hown.2 with ⟨rfl, _⟩ | ⟨g, cap, cur, rfl, _, _, hnc, _⟩
    · simp [Builtin.append_, run_underlying ht, sizeOf, typeInfo, hi, Builtin.lenOf, Builtin.firstCells, loadCells, loadCellsFrom]
    · simp [Builtin.append_, run_underlying ht, sizeOf, typeInfo, hi, Builtin.lenOf, Builtin.firstCells, hnc, storeCells, loadCells, loadCellsFrom]

theorem wpList_append8w {P : Program} {T E : TypeId} {i : TypeInfo} (ht : P.underlying T = some (.slice E)) (hi : P.info? E = some i) (hz : i.zero = some (.int .u8 0)) (hsz : i.size = 1) (hby : i.bytes = 1)
    {ops : Array Oper} {rest : List Oper} {o : Oper} {a : Act} {Q : Exit → Act → World → Prop} {w : World} (hgd : o.guard = none) (s y : Operand)
    (ho : o.op = .call { callee := .builtin .append, args := #[s, y], argTypes := #[T, T] })
    (base : Nat) {v x : Value} {l m : List UInt8} (hs : a.eval s = v) (hy : a.eval y = x) (hown : Own8 w base E v l) (hx : BsW w x m) (hlen : l.length + m.length ≤ 140737488355328) (hbase : base ≤ w.heap.size)
    (h : ∀ v' w', Own8 w' base E v' (l ++ m) → w.grownBy w' v.ownBlock → wpList P ops Q rest (a.put o.dst v') w') : wpList P ops Q (o :: rest) a w :=
  wpList_plain hgd fun K hK => by
    obtain ⟨v', w', hr, h2, h3⟩ := run_append8w (P := P) ht hi hz hsz hby o.type hown hx hlen hbase
    unfold Oper.wp execOp
    simp only [ho, resolve, invoke, builtin, Sem.run_bind, Sem.run_pure, Result.andThen_ok, List.map_toArray, List.map_cons, List.map_nil, hs, hy, hr]
    exact hK _ _ (h v' w' h2 h3)
end Go.Proofs.Ytbofcocfcmlcaaa

/-! gazettelaw05.Request. -/
namespace Go.Proofs.Ytbofcocfcmlcaaa
open Go.RowKit

/-- append onto an empty slice of the call's own without room. -/
theorem run_append_empty {P : Program} {T E : TypeId} {i : TypeInfo} (ht : P.underlying T = some (.slice E)) (hi : P.info? E = some i) (hz : i.zero = some (.int .u8 0)) (hsz : i.size = 1) (hby : i.bytes = 1) (ty : TypeId)
    {w : World} {base g : Nat} {x : Value} {m : List UInt8} (hown : Own8 w base E (.slice (some ⟨g, 0, none⟩) 0 0) []) (hx : BsW w x m) (hlen : m.length ≤ 140737488355328) (hbase : base ≤ w.heap.size) :
    ∃ v' w', (Builtin.append_ #[T, T] ty #[.slice (some ⟨g, 0, none⟩) 0 0, x]).run P w = .ok v' w' ∧ Own8 w' base E v' m ∧ Below w.heap.size w w' := by
  have hsame : (∃ ad c, x = .slice ad 0 c) → m = [] → ∃ v' w', (Builtin.append_ #[T, T] ty #[.slice (some ⟨g, 0, none⟩) 0 0, x]).run P w = .ok v' w' ∧ Own8 w' base E v' m ∧ Below w.heap.size w w' := by
    rintro ⟨ad, c, rfl⟩ rfl
    refine ⟨_, w, ?_, hown, Below.refl _ w⟩
    cases ad <;> simp [Builtin.append_, run_underlying ht, sizeOf, typeInfo, hi, Builtin.lenOf, Builtin.firstCells, loadCells, loadCellsFrom, storeCells]
  rcases hx with hx | ⟨rfl, ad, rfl⟩
  · cases m with
    | nil =>
      obtain ⟨a, c, rfl⟩ := hx.form
      exact hsame ⟨a, c, rfl⟩ rfl
    | cons u us =>
      obtain ⟨v', w', h1, h2, h3, h4, h5⟩ := run_append8k (P := P) ht hi hz hsz hby ty hown hx (by simpa using hlen) hbase
      rcases h5 with ⟨h5, _⟩ | ⟨a, c, e1, e2⟩
      · exact ⟨v', w', h1, by simpa using h2, ⟨h5.os, h5.tape, h5.output, h5.size, fun k hk => h5.block k hk (by simp)⟩⟩
      · injection e1 with _ _ e3
        subst e3
        obtain ⟨_, _, _, hc, _⟩ := h2.bs
        exfalso
        have := h2.bs
        rw [e2] at this
        obtain ⟨a9, c9, e9, hc9, _⟩ := this
        injection e9 with _ _ e9
        subst e9
        simp at hc9
  · exact hsame ⟨_, _, rfl⟩ rfl

set_option maxRecDepth 100000 in
set_option maxHeartbeats 1600000 in
theorem law_Request (k lo po : Int) (v : Value) (m : List UInt8) (W : World) (hv : BsW W v m) (hm : m.length ≤ 140737488355328) :
    Calls Try.prog 22 #[.agg #[.int .i64 k, .int .i64 lo, .int .i64 po, v]] W fun e w' => ∃ v', e = .returned (.agg #[.int .i64 k, .int .i64 lo, .int .i64 po, v']) ∧ Own8 w' W.heap.size 5 v' m ∧ Below W.heap.size W w' := by
  obtain ⟨av, cv, rfl⟩ := hv.form
  obtain ⟨W1, hW1⟩ : ∃ W1, W.alloc (.cells #[.int .i64 k, .int .i64 lo, .int .i64 po, .slice av m.length cv] 54) = W1 := ⟨_, rfl⟩
  have b1 : Below W.heap.size W W1 := by rw [← hW1]; exact (Below.refl _ W).alloc (Nat.le_refl _) _
  have k1 : Blk W1 W.heap.size #[.int .i64 k, .int .i64 lo, .int .i64 po, .slice av m.length cv] 54 := by rw [← hW1]; exact Blk.new W _ _
  have hs1 : W1.heap.size = W.heap.size + 1 := by rw [← hW1]; simp
  have b2 : Below W1.heap.size W1 (W1.alloc (.cells #[.int .i64 0, .int .i64 0, .int .i64 0, .slice none 0 0] 57)) := (Below.refl _ W1).alloc (Nat.le_refl _) _
  have k2 := Blk.new' W1 (W.heap.size + 1) hs1.symm #[.int .i64 0, .int .i64 0, .int .i64 0, .slice none 0 0] 57
  have hv2 := hv.keep (b1.trans (b2.mono b1.size))
  have k12 := k1.keep b2
  have b12 := b1.trans (b2.mono b1.size)
  go_enter Try.func22, Try.ntmps22
  go_wp2_with fail
  have hs2 : (W1.alloc (.cells #[.int .i64 0, .int .i64 0, .int .i64 0, .slice none 0 0] 57)).heap.size = W.heap.size + 2 := by simp [hs1]
  generalize W1.alloc (.cells #[.int .i64 0, .int .i64 0, .int .i64 0, .slice none 0 0] 57) = W2 at *
  have bd : Below W2.heap.size W2 W2.drew := (Below.refl _ W2).drew
  have K1 := hid k12
  have K2 := hid k2
  have HV := hid hv2
  have HB := hid (And.intro b12 hs2)
  clear hW1 b1 k1 hs1 b2 k2 hv2 k12 b12 hv bd
  refine wp_region_tail 11 rfl Grows (fun i v x => match i with
      | 0 => v = .pointer (some ⟨W.heap.size, 0, none⟩)
      | 1 => v = .int .i64 k
      | 2 => v = .pointer (some ⟨W.heap.size, 1, none⟩)
      | 3 => v = .int .i64 lo
      | 4 => v = .pointer (some ⟨W.heap.size, 2, none⟩)
      | 5 => v = .int .i64 po
      | 6 => ∃ g, v = .slice (some ⟨g, 0, none⟩) 0 0 ∧ Own8 x W.heap.size 5 (.slice (some ⟨g, 0, none⟩) 0 0) []
      | 7 => v = .pointer (some ⟨W.heap.size, 3, none⟩)
      | 8 => v = .slice av m.length cv
      | 9 => Own8 x W.heap.size 5 v m
      | 10 => ∃ v9, v = .agg #[.int .i64 k, .int .i64 lo, .int .i64 po, v9] ∧ Own8 x W.heap.size 5 v9 m
      | _ => True) (by kernel_rfl) (Grows.refl _) Grows.trans ?rstab ?rsteps ?rfin
  case rstab =>
    intro i v x y hg h
    match i with
    | 0 | 1 | 2 | 3 | 4 | 5 | 7 | 8 => exact h
    | 6 => exact (by obtain ⟨g9, e9, h9⟩ := h; exact ⟨g9, e9, h9.keep hg⟩)
    | 9 => exact Own8.keep h hg
    | 10 => exact (by obtain ⟨v9, e9, h9⟩ := h; exact ⟨v9, e9, h9.keep hg⟩)
    | n + 11 => trivial
  case rsteps =>
    simp only [List.take_succ_cons, List.take_zero]
    refine ⟨?_, ?_, ?_, ?_, ?_, ?_, ?_, ?_, ?_, ?_, ?_, trivial⟩
    · intro a x hA
      have t1 := hA.at_ 1 (by rfl) rfl
      refine step_value (w' := x) (v := .pointer (some ⟨W.heap.size, 0, none⟩)) ?_ (Grows.refl _) ?_
      · go_simp
      · rfl
    · intro a x hA
      have t3 : a.tmps[3]?.getD undef = .pointer (some ⟨W.heap.size, 0, none⟩) := hA.dep_ ⟨0, .data⟩ (by simp) _ 3 rfl rfl
      have hBx := K1.out.keep hA.grown
      have hc0 := hBx.cell (o := 0) rfl
      have hc1 := hBx.cell (o := 1) rfl
      have hc2 := hBx.cell (o := 2) rfl
      have hc3 := hBx.cell (o := 3) rfl
      clear hBx
      refine step_value (w' := x) (v := .int .i64 k) ?_ (Grows.refl _) ?_
      · go_simp
      · rfl
    · intro a x hA
      have t1 := hA.at_ 1 (by rfl) rfl
      refine step_value (w' := x) (v := .pointer (some ⟨W.heap.size, 1, none⟩)) ?_ (Grows.refl _) ?_
      · go_simp
      · rfl
    · intro a x hA
      have t5 : a.tmps[5]?.getD undef = .pointer (some ⟨W.heap.size, 1, none⟩) := hA.dep_ ⟨2, .data⟩ (by simp) _ 5 rfl rfl
      have hBx := K1.out.keep hA.grown
      have hc0 := hBx.cell (o := 0) rfl
      have hc1 := hBx.cell (o := 1) rfl
      have hc2 := hBx.cell (o := 2) rfl
      have hc3 := hBx.cell (o := 3) rfl
      clear hBx
      refine step_value (w' := x) (v := .int .i64 lo) ?_ (Grows.refl _) ?_
      · go_simp
      · rfl
    · intro a x hA
      have t1 := hA.at_ 1 (by rfl) rfl
      refine step_value (w' := x) (v := .pointer (some ⟨W.heap.size, 2, none⟩)) ?_ (Grows.refl _) ?_
      · go_simp
      · rfl
    · intro a x hA
      have t7 : a.tmps[7]?.getD undef = .pointer (some ⟨W.heap.size, 2, none⟩) := hA.dep_ ⟨4, .data⟩ (by simp) _ 7 rfl rfl
      have hBx := K1.out.keep hA.grown
      have hc0 := hBx.cell (o := 0) rfl
      have hc1 := hBx.cell (o := 1) rfl
      have hc2 := hBx.cell (o := 2) rfl
      have hc3 := hBx.cell (o := 3) rfl
      clear hBx
      refine step_value (w' := x) (v := .int .i64 po) ?_ (Grows.refl _) ?_
      · go_simp
      · rfl
    · intro a x hA
      have hsx : W.heap.size ≤ x.heap.size := Nat.le_trans HB.out.1.size hA.grow.size
      refine step_value (w' := x.alloc (.cells #[] 5)) (v := .slice (some ⟨x.heap.size, 0, none⟩) 0 0) (by go_simp) (Grows.alloc _ _) ?_
      exact ⟨_, rfl, own8_mk hsx (Blk.new x _ _) rfl (Nat.le_refl _) (by simp [maxLen]) rfl (by simp)⟩
    · intro a x hA
      have t1 := hA.at_ 1 (by rfl) rfl
      refine step_value (w' := x) (v := .pointer (some ⟨W.heap.size, 3, none⟩)) ?_ (Grows.refl _) ?_
      · go_simp
      · rfl
    · intro a x hA
      have t10 : a.tmps[10]?.getD undef = .pointer (some ⟨W.heap.size, 3, none⟩) := hA.dep_ ⟨7, .data⟩ (by simp) _ 10 rfl rfl
      have hBx := K1.out.keep hA.grown
      have hc0 := hBx.cell (o := 0) rfl
      have hc1 := hBx.cell (o := 1) rfl
      have hc2 := hBx.cell (o := 2) rfl
      have hc3 := hBx.cell (o := 3) rfl
      clear hBx
      refine step_value (w' := x) (v := .slice av m.length cv) ?_ (Grows.refl _) ?_
      · go_simp
      · rfl
    · intro a x hA
      have t9 : ∃ g, (a.tmps[9]?.getD undef) = .slice (some ⟨g, 0, none⟩) 0 0 ∧ Own8 x W.heap.size 5 (.slice (some ⟨g, 0, none⟩) 0 0) [] := hA.dep_ ⟨6, .data⟩ (by simp) _ 9 rfl rfl
      have t11 : a.tmps[11]?.getD undef = .slice av m.length cv := hA.dep_ ⟨8, .data⟩ (by simp) _ 11 rfl rfl
      obtain ⟨g, e9, ho9⟩ := t9
      obtain ⟨i0, hi, hz0, hz1, hz2⟩ := info_parts info_u8
      have hsx : W.heap.size ≤ x.heap.size := Nat.le_trans HB.out.1.size hA.grow.size
      have hvx := HV.out.keep hA.grown
      obtain ⟨v', w', hr, q1, q2⟩ := run_append_empty (P := Try.prog) Try.underlying34 hi hz0 hz1 hz2 34 ho9 hvx hm hsx
      refine step_value (w' := w') (v := v') (exec_append rfl (by
        have e1 : a.eval (.tmp 9) = .slice (some ⟨g, 0, none⟩) 0 0 := by simp [go_sem, e9]
        have e2 : a.eval (.tmp 11) = .slice av m.length cv := by simp [go_sem, t11]
        rw [e1, e2]; exact hr)) q2 ?_
      exact q1
    · intro a x hA
      have t4 : a.tmps[4]?.getD undef = .int .i64 k := hA.dep_ ⟨1, .data⟩ (by simp) _ 4 rfl rfl
      have t6 : a.tmps[6]?.getD undef = .int .i64 lo := hA.dep_ ⟨3, .data⟩ (by simp) _ 6 rfl rfl
      have t8 : a.tmps[8]?.getD undef = .int .i64 po := hA.dep_ ⟨5, .data⟩ (by simp) _ 8 rfl rfl
      have t12 : Own8 x W.heap.size 5 (a.tmps[12]?.getD undef) m := hA.dep_ ⟨9, .data⟩ (by simp) _ 12 rfl rfl
      generalize hq : a.tmps[12]?.getD undef = q9 at t12
      obtain ⟨a9, c9, rfl⟩ := t12.form
      refine step_value (w' := x) (v := .agg #[.int .i64 k, .int .i64 lo, .int .i64 po, .slice a9 m.length c9]) ?_ (Grows.refl _) ?_
      · go_simp
      · exact ⟨_, rfl, t12⟩
  case rfin =>
    intro y W' hg hV
    simp only [List.take_succ_cons, List.take_zero, AllVals] at hV
    obtain ⟨_, _, _, _, _, _, _, _, _, _, u10, _⟩ := hV
    simp only [List.take_succ_cons, List.take_zero, List.drop_succ_cons, List.drop_zero, putAll, Act.put, List.setIfInBounds_toArray, List.set_cons_zero, List.set_cons_succ]
    obtain ⟨v9, e9, o9⟩ := u10
    rw [e9]
    clear e9
    obtain ⟨a9, c9, rfl⟩ := o9.form
    have bdW : Below W2.heap.size W2 W' := (below_of_drewN _ W2 1).trans hg
    have kR6 := K2.out.keep bdW
    have b6W : Below W.heap.size W W' := HB.out.1.trans (bdW.mono HB.out.1.size)
    have r0 := kR6.cell (o := 0) rfl
    have f0 := kR6.free 0
    have r1 := kR6.cell (o := 1) rfl
    have f1 := kR6.free 1
    have r2 := kR6.cell (o := 2) rfl
    have f2 := kR6.free 2
    have r3 := kR6.cell (o := 3) rfl
    have f3 := kR6.free 3
    obtain ⟨W7, hW7⟩ : ∃ W7, (((W'.setCell ⟨W.heap.size + 1, 0, none⟩ (.int .i64 k)).setCell ⟨W.heap.size + 1, 1, none⟩ (.int .i64 lo)).setCell ⟨W.heap.size + 1, 2, none⟩ (.int .i64 po)).setCell ⟨W.heap.size + 1, 3, none⟩ (.slice a9 m.length c9) = W7 := ⟨_, rfl⟩
    have k7 := ((((kR6.set (o := 0) (.int .i64 k)).set (o := 1) (.int .i64 lo)).set (o := 2) (.int .i64 po)).set (o := 3) (.slice a9 m.length c9))
    rw [hW7] at k7
    simp only [List.setIfInBounds_toArray, List.set_cons_zero, List.set_cons_succ] at k7
    have x7 : Ext (fun b => b = W.heap.size + 1) W' W7 := by rw [← hW7]; exact ((((Ext.refl (fun b => b = W.heap.size + 1) W').setCell (.inl rfl) _).setCell (.inl rfl) _).setCell (.inl rfl) _).setCell (.inl rfl) _
    have o7 := own_set W' W7 (W.heap.size + 1) _ o9 kR6 x7 (by decide)
    have b7 : Below W.heap.size W W7 := b6W.trans (x7.belowOf b6W.size (fun b hb e => by omega))
    have HH := hid (And.intro k7 (And.intro o7 b7))
    have HW7 := hid hW7
    clear k7 o7 b7 x7 o9 kR6 b6W hW7 bdW hg
    go_wp2_with fail
    rw [HW7.out]
    have hld := run_loadVar_row (P := Try.prog) W7 (W.heap.size + 1) 57 57 _ (0, 0) _ HH.out.1 Try.underlying57 rfl size_request
    refine bodyPost_ret (v := .agg #[.int .i64 k, .int .i64 lo, .int .i64 po, .slice a9 m.length c9]) ?_ rfl ?_
    · simp [results, Try.results22, hld, asAddr]
    · exact ⟨_, rfl, HH.out.2.1, HH.out.2.2⟩
end Go.Proofs.Ytbofcocfcmlcaaa
