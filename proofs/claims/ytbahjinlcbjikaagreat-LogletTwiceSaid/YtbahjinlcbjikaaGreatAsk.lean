import Derived.Test.YtbahjinlcbjikaaGreatNodeH
import Derived.Test.YtbahjinlcbjikaaGreatStage
import Derived.Test.YtbahjinlcbjikaaGreatMBsw
import Derived.Test.YtbahjinlcbjikaaGreatTailIn
/-! Package node: Ask of a node that is up. -/
namespace Go.Proofs.YtbahjinlcbjikaaGreat
open Go.RowKit

def putRepB (e tl : Int) (sl : Bool) (l : List UInt8) : List UInt8 := if tellsB e tl l.length then frameB 2 (repB e tl (if sl then 1 else 0) l) else []
/-- What a node answers; its store, its disk behind it. -/
def askF (S : St) (D : Dk) (b : List UInt8) : List UInt8 × St × Dk :=
  match getReq b with
  | none => (putRepB 22 0 false [], S, D)
  | some (k, lo, po, d) => (putRepB (doF S D k lo po d).1 (tailF (doF S D k lo po d).2.2.1 lo) ((doF S D k lo po d).2.2.1.get lo).2.2 (doF S D k lo po d).2.1, (doF S D k lo po d).2.2.1, (doF S D k lo po d).2.2.2)
theorem askF_on {S : St} {D : Dk} (h : On S D) (b : List UInt8) : On (askF S D b).2.1 (askF S D b).2.2 := by
  unfold askF
  cases getReq b with
  | none => exact h
  | some x => exact doF_on h _ _ _ _
theorem writeF_pos {S S1 : St} {D : Dk} {kd lo po : Int} {l : List UInt8} : (writeF S S1 D kd lo po l).1 = 0 ∨ (writeF S S1 D kd lo po l).1 = 7 := by
  unfold writeF
  split
  · exact .inl rfl
  · exact .inr rfl
theorem putF_code (S : St) (D : Dk) (lo po : Int) (l : List UInt8) (r : Bool) : (putF S D lo po l r).1 ≠ 8 ∧ 0 ≤ (putF S D lo po l r).1 ∧ (putF S D lo po l r).1 ≤ 255 := by
  unfold putF
  split
  · simp
  split
  · split <;> simp
  · split
    · simp
    · rcases @writeF_pos S (applyPut S lo po l) D 1 lo po l with h | h <;> rw [h] <;> simp
theorem doF_code (S : St) (D : Dk) (k lo po : Int) (l : List UInt8) : (doF S D k lo po l).1 ≠ 8 ∧ 0 ≤ (doF S D k lo po l).1 ∧ (doF S D k lo po l).1 ≤ 255 := by
  unfold doF
  split
  · split
    · exact putF_code _ _ _ _ _ _
    · simp
  split
  · split
    · exact putF_code _ _ _ _ _ _
    · simp
  split
  · unfold sealF
    split
    · simp
    · rcases @writeF_pos S (applySeal S lo) D 2 lo 0 [] with h | h <;> simp only [h] <;> simp
  split
  · split
    · rcases getF_code S lo po with ⟨h, _⟩ | h | h <;> simp only [h] <;> simp
    · simp
  split
  · unfold trimF
    split
    · simp
    · rcases @writeF_pos S (applyTrim S lo po) D 3 lo po [] with h | h <;> simp only [h] <;> simp
  · simp

section
variable {W : World} {n : Nat} {pv : Value} {q : StP} {S : St} {D : Dk}
theorem put_reply (er tl : Int) (sl : Bool) (v : Value) (l : List UInt8) (W : World) (hv : Bs W v l) :
    Calls Tryz.prog 86 #[.agg #[.int .i64 er, .int .i64 tl, .bool sl, v]] W fun e w' => ∃ v' c, e = .returned (.tuple #[v', .int .i64 c]) ∧ Own8 w' W.heap.size 5 v' (putRepB er tl sl l) ∧ Below W.heap.size W w' ∧ (c = 0 ↔ tellsB er tl l.length = true) := by
  cases ht : tellsB er tl l.length
  · obtain ⟨a0, c0, rfl⟩ := hv.form
    refine (put_reply_no er tl sl a0 l.length c0 W (by have := hv.len; unfold maxLen at this; omega) ht).mono ?_
    rintro e w' ⟨rfl, hb⟩
    refine ⟨_, _, rfl, ?_, hb, by simp⟩
    unfold putRepB
    rw [ht]
    exact Own8.nil _ _ _
  · cases sl
    · refine (put_reply_false er tl v l W hv ht).mono ?_
      rintro e w' ⟨v', rfl, ho, hb⟩
      refine ⟨_, _, rfl, ?_, hb, by simp⟩
      unfold putRepB
      rw [ht]
      exact ho
    · refine (put_reply_true er tl v l W hv ht).mono ?_
      rintro e w' ⟨v', rfl, ho, hb⟩
      refine ⟨_, _, rfl, ?_, hb, by simp⟩
      unfold putRepB
      rw [ht]
      exact ho

set_option maxHeartbeats 800000 in
theorem node_Store (h : NodeAt W n pv q S D) : Calls Tryz.prog 121 #[.pointer (some ⟨n, 0, none⟩)] W fun e w' => e = .returned (.pointer (some ⟨q.s, 0, none⟩)) ∧ w' = W := by
  have c1 := h.cell.cell (o := 1) rfl
  go_enter Tryz.func121, Tryz.ntmps121
  go_wp2_with fail
  go_ret
  exact ⟨rfl, rfl⟩
set_option maxHeartbeats 800000 in
theorem node_Up (h : NodeAt W n pv q S D) : Calls Tryz.prog 76 #[.pointer (some ⟨n, 0, none⟩)] W fun e w' => e = .returned (.bool true) ∧ w' = W := by
  go_enter Tryz.func76, Tryz.ntmps76
  go_wp2_with fail
  refine (node_Store h).mono ?_
  rintro e w' ⟨rfl, rfl⟩
  go_wp2_with fail
  go_ret
  exact ⟨rfl, rfl⟩

theorem store_one_at {w : World} {g o : Nat} {c : Array Value} {t : TypeId} {u v : Value} (hb : Blk w g c t) (hu : c[o]? = some u) (h1 : v.oneCell' = true) :
    ∃ w', (store ⟨g, o, none⟩ v).run Tryz.prog w = .ok () w' ∧ Blk w' g (c.setIfInBounds o v) t ∧ Ext (fun b => b = g) w w' :=
  ⟨_, run_store_one (hb.cell hu) (hb.free o) h1, hb.set v, (Ext.refl (fun b => b = g) w).setCell (a := ⟨g, o, none⟩) (.inl rfl) v⟩
theorem table_stores {w : World} {g : Nat} (hb : Blk w g #[.nilFunc, .nilFunc, .nilFunc, .nilFunc, .nilFunc, .nilFunc, .nilFunc] 149) :
    ∃ w1 w2 w3 w4 w5 w6 w7, (store ⟨g, 0, none⟩ .nilFunc).run Tryz.prog w = .ok () w1 ∧ (store ⟨g, 1, none⟩ (.func (.func 78) #[] #[])).run Tryz.prog w1 = .ok () w2 ∧ (store ⟨g, 2, none⟩ (.func (.func 79) #[] #[])).run Tryz.prog w2 = .ok () w3 ∧ (store ⟨g, 3, none⟩ (.func (.func 80) #[] #[])).run Tryz.prog w3 = .ok () w4 ∧ (store ⟨g, 4, none⟩ (.func (.func 81) #[] #[])).run Tryz.prog w4 = .ok () w5 ∧ (store ⟨g, 5, none⟩ (.func (.func 82) #[] #[])).run Tryz.prog w5 = .ok () w6 ∧ (store ⟨g, 6, none⟩ (.func (.func 83) #[] #[])).run Tryz.prog w6 = .ok () w7 ∧ Blk w7 g #[.nilFunc, .func (.func 78) #[] #[], .func (.func 79) #[] #[], .func (.func 80) #[] #[], .func (.func 81) #[] #[], .func (.func 82) #[] #[], .func (.func 83) #[] #[]] 149 ∧ Ext (fun b => b = g) w w7 := by
  obtain ⟨w1, e1, b1, x1⟩ := store_one_at (o := 0) (v := .nilFunc) hb rfl rfl
  obtain ⟨w2, e2, b2, x2⟩ := store_one_at (o := 1) (v := (.func (.func 78) #[] #[])) b1 rfl rfl
  obtain ⟨w3, e3, b3, x3⟩ := store_one_at (o := 2) (v := (.func (.func 79) #[] #[])) b2 rfl rfl
  obtain ⟨w4, e4, b4, x4⟩ := store_one_at (o := 3) (v := (.func (.func 80) #[] #[])) b3 rfl rfl
  obtain ⟨w5, e5, b5, x5⟩ := store_one_at (o := 4) (v := (.func (.func 81) #[] #[])) b4 rfl rfl
  obtain ⟨w6, e6, b6, x6⟩ := store_one_at (o := 5) (v := (.func (.func 82) #[] #[])) b5 rfl rfl
  obtain ⟨w7, e7, b7, x7⟩ := store_one_at (o := 6) (v := (.func (.func 83) #[] #[])) b6 rfl rfl
  exact ⟨w1, w2, w3, w4, w5, w6, w7, e1, e2, e3, e4, e5, e6, e7, b7, ((((((x1.trans x2 fun _ h => .inl h).trans x3 fun _ h => .inl h).trans x4 fun _ h => .inl h).trans x5 fun _ h => .inl h).trans x6 fun _ h => .inl h).trans x7 fun _ h => .inl h)⟩
structure FactsAt (W w : World) (n : Nat) (pv : Value) (q : StP) (S : St) (D : Dk) (T5 T6 T8 : Nat) (c6 : Array Value) (v : Value) (d : List UInt8) : Prop where
  node : NodeAt w n pv q S D
  b5 : Blk w T5 #[.int .i64 22, .int .i64 0, .bool false, .slice none 0 0] 51
  b6 : Blk w T6 c6 55
  b8 : Blk w T8 #[.nilFunc, .func (.func 78) #[] #[], .func (.func 79) #[] #[], .func (.func 80) #[] #[], .func (.func 81) #[] #[], .func (.func 82) #[] #[], .func (.func 83) #[] #[]] 149
  bs : Bs w v d
  own : ∀ g, v.ownBlock = some g → ¬ q.all g
  below : Below W.heap.size W w
  t56 : T5 < T6
  t68 : T6 < T8
  t5 : T5 = W.heap.size
  n5 : n < W.heap.size
  q5 : ∀ {b}, q.all b → b < W.heap.size
/-- What lies in memory behind the request's doing. -/
structure AskAt (W0 w : World) (n : Nat) (pv : Value) (q q' : StP) (S' : St) (D' : Dk) (T5 T6 : Nat) (c5 c6 : Array Value) (dv : Value) (dl : List UInt8) (B : Nat) : Prop where
  node : NodeAt w n pv q' S' D'
  s : q'.s = q.s
  own : Own8 w B 5 dv dl
  b5 : Blk w T5 c5 51
  b6 : Blk w T6 c6 55
  x : Ext (fun b => q.own b) W0 w
  w5 : W0.heap.size ≤ T5 ∧ ¬ q'.all T5 ∧ n ≠ T5 ∧ T6 ≠ T5
  went : Went q q' W0.heap.size
theorem AskAt.keep {W0 w w' : World} {n : Nat} {pv : Value} {q q' : StP} {S' : St} {D' : Dk} {T5 T6 : Nat} {c5 c6 : Array Value} {dv : Value} {dl : List UInt8} {B : Nat} (h : AskAt W0 w n pv q q' S' D' T5 T6 c5 c6 dv dl B) (hb : Below w.heap.size w w') : AskAt W0 w' n pv q q' S' D' T5 T6 c5 c6 dv dl B :=
  ⟨h.node.keep hb, h.s, h.own.keep hb, h.b5.keep hb, h.b6.keep hb, h.x.then hb, h.w5, h.went⟩
theorem AskAt.set {W0 w : World} {n : Nat} {pv : Value} {q q' : StP} {S' : St} {D' : Dk} {T5 T6 : Nat} {c5 c6 : Array Value} {dv : Value} {dl : List UInt8} {B : Nat} (h : AskAt W0 w n pv q q' S' D' T5 T6 c5 c6 dv dl B) (o : Nat) (v : Value) : AskAt W0 (w.setCell ⟨T5, o, none⟩ v) n pv q q' S' D' T5 T6 (c5.setIfInBounds o v) c6 dv dl B := by
  have hx : Ext (fun b => b = T5) w (w.setCell ⟨T5, o, none⟩ v) := (Ext.refl (fun b => b = T5) w).setCell (.inl rfl) v
  exact ⟨⟨h.node.cell.ext hx h.w5.2.2.1, h.node.st.ext hx (fun b e hq => h.w5.2.1 (e ▸ hq)), h.node.on, h.node.out⟩, h.s, own_set w _ T5 _ h.own h.b5 hx (by decide), h.b5.set v, h.b6.ext hx h.w5.2.2.2,
    h.x.trans hx (fun b e => .inr (by have := h.w5.1; omega)), h.w5, h.went⟩
end

section
variable {W : World} {n : Nat} {pv : Value} {q : StP} {S : St} {D : Dk}
set_option maxRecDepth 100000 in
set_option maxHeartbeats 3200000 in
theorem node_Ask_some (h : NodeAt W n pv q S D) (v : Value) (b : List UInt8) (hv : Bs W v b) (hl : b.length ≤ 1073741824) (k lo po : Nat) (d : List UInt8) (hreq : getReq b = some (k, lo, po, d)) (F : FuncId)
    (hCF : ∀ (args : Array Value) (w : World), (callFunc F args).run Tryz.prog w = .ok (.enter F args) w) (hF9 : (#[.nilFunc, .func (.func 78) #[] #[], .func (.func 79) #[] #[], .func (.func 80) #[] #[], .func (.func 81) #[] #[], .func (.func 82) #[] #[], .func (.func 83) #[] #[]] : Array Value)[k]? = some (.func (.func F) #[] #[])) (hk9 : 1 ≤ k ∧ k ≤ 6)
    (hH : ∀ (W' : World) (dv : Value), NodeAt W' n pv q S D → Bs W' dv d → (∀ g, dv.ownBlock = some g → ¬ q.all g) → Calls Tryz.prog F #[.pointer (some ⟨n, 0, none⟩), .agg #[.int .i64 (k : Int), .int .i64 (lo : Int), .int .i64 (po : Int), dv]] W' (DonePost W' q (doF S D k lo po d))) :
    Calls Tryz.prog 47 #[.pointer (some ⟨n, 0, none⟩), v] W fun e w' => ∃ v', e = .returned v' ∧ Own8 w' W.heap.size 5 v' (askF S D b).1 ∧ (∃ q', NodeAt w' n pv q' (askF S D b).2.1 (askF S D b).2.2 ∧ Went q q' W.heap.size) ∧ Ext q.own W w' := by
  obtain ⟨a0, c0, rfl⟩ := hv.form
  have hgr := get_request _ b (W.alloc (.cells #[.int .i64 22, .int .i64 0, .bool false, .slice none 0 0] 51)) (hv.keep ((Below.refl _ W).alloc (Nat.le_refl _) _)) hl
  have b1 : Below W.heap.size W (W.alloc (.cells #[.int .i64 22, .int .i64 0, .bool false, .slice none 0 0] 51)) := (Below.refl _ W).alloc (Nat.le_refl _) _
  have k5 := Blk.new W #[.int .i64 22, .int .i64 0, .bool false, .slice none 0 0] 51
  have h1 := h.keep b1
  have HG := hid hgr
  clear hgr hv
  go_enter Tryz.func47, Tryz.ntmps47
  go_wp2_with fail
  refine (node_Up h).mono ?_
  rintro e W9 ⟨rfl, hw⟩
  rw [hw]
  clear hw W9
  go_wp2_with fail
  refine HG.out.mono ?_
  intro e W2 hpost
  unfold ReqPost at hpost
  rw [hreq] at hpost
  obtain ⟨v2, rfl, o2, b2⟩ := hpost
  obtain ⟨av, cv, rfl⟩ := o2.form
  have b12 : Below W.heap.size W W2 := b1.trans (b2.mono b1.size)
  have hlt2 : W.heap.size < W2.heap.size := by have := b2.size; simp at this; omega
  obtain ⟨W3, hW3⟩ : ∃ W3, (W2.alloc (.cells #[.int .i64 (k : Int), .int .i64 (lo : Int), .int .i64 (po : Int), .slice av d.length cv] 55)).alloc (.cells #[.nilFunc, .nilFunc, .nilFunc, .nilFunc, .nilFunc, .nilFunc, .nilFunc] 149) = W3 := ⟨_, rfl⟩
  have hZ : Blk W3 (W2.heap.size + 1) #[.nilFunc, .nilFunc, .nilFunc, .nilFunc, .nilFunc, .nilFunc, .nilFunc] 149 := by rw [← hW3]; exact Blk.new' (W2.alloc (.cells #[.int .i64 (k : Int), .int .i64 (lo : Int), .int .i64 (po : Int), .slice av d.length cv] 55)) (W2.heap.size + 1) (by simp) _ _
  obtain ⟨w1, w2, w3, w4, w5, w6, W4, e0, e1, e2, e3, e4, e5, e6, k8, hx⟩ := table_stores hZ
  have HF : FactsAt W W4 n pv q S D W.heap.size W2.heap.size (W2.heap.size + 1) #[.int .i64 (k : Int), .int .i64 (lo : Int), .int .i64 (po : Int), .slice av d.length cv] (.slice av d.length cv) d := by
    have b3 : Below W2.heap.size W2 (W2.alloc (.cells #[.int .i64 (k : Int), .int .i64 (lo : Int), .int .i64 (po : Int), .slice av d.length cv] 55)) := (Below.refl _ W2).alloc (Nat.le_refl _) _
    have b4 : Below (W2.alloc (.cells #[.int .i64 (k : Int), .int .i64 (lo : Int), .int .i64 (po : Int), .slice av d.length cv] 55)).heap.size (W2.alloc (.cells #[.int .i64 (k : Int), .int .i64 (lo : Int), .int .i64 (po : Int), .slice av d.length cv] 55)) W3 := by rw [← hW3]; exact (Below.refl _ _).alloc (Nat.le_refl _) _
    have b34 := b3.trans (b4.mono b3.size)
    have hsz : ∀ b, q.all b → b < W.heap.size := fun b hb => h.st.size hb
    have hcl := h.cell.lt
    have hN := h.keep (b12.trans (b34.mono b12.size))
    refine ⟨⟨hN.cell.ext hx (by omega), hN.st.ext hx (fun b e hq => by have := hsz _ hq; omega), hN.on, hN.out⟩, ((k5.keep b2).keep b34).ext hx (by omega), ((Blk.new W2 #[.int .i64 (k : Int), .int .i64 (lo : Int), .int .i64 (po : Int), .slice av d.length cv] 55).keep b4).ext hx (by omega), k8, (o2.keep b34).bs.ext hx ?_, ?_, (b12.trans (b34.mono b12.size)).trans (hx.belowOf (Nat.le_trans b12.size b34.size) (fun b hb e => by omega)), hlt2, by omega, rfl, hcl, fun hq => hsz _ hq⟩
    · intro g hg e
      have := (o2.blk g hg).2
      omega
    · intro g hg hq
      have := (o2.blk g hg).1
      have := hsz _ hq
      simp at *
      omega
  have HF := hid HF
  clear HG o2 b2 h1 k5 b1 h hlt2 b12 hZ hx k8
  go_wp2_with fail
  have hN5 := HF.out.node
  have hd5 : Below W4.heap.size W4 W4.drew := (Below.refl _ W4).drew
  have HH := hid (hH W4.drew (.slice av d.length cv) (hN5.keep hd5) (HF.out.bs.keep hd5) HF.out.own)
  have hcode := doF_code S D (k : Int) (lo : Int) (po : Int) d
  have hondo := doF_on hN5.on (k : Int) (lo : Int) (po : Int) d
  have hask : askF S D b = (putRepB (doF S D k lo po d).1 (tailF (doF S D k lo po d).2.2.1 lo) ((doF S D k lo po d).2.2.1.get lo).2.2 (doF S D k lo po d).2.1, (doF S D k lo po d).2.2.1, (doF S D k lo po d).2.2.2) := by unfold askF; rw [hreq]
  have HE := hid hask
  clear hask hH
  generalize doF S D (k : Int) (lo : Int) (po : Int) d = R at *
  obtain ⟨cd, dl, S', D'⟩ := R
  simp only at hcode hondo
  have HAsk := hid (show ∀ dv q1 w', Own8 w' W4.drew.heap.size 5 dv dl → StAt w' q1 S' D' → Went q q1 W4.drew.heap.size → Ext q.own W4.drew w' → AskAt W w' n pv q q1 S' D' W.heap.size W2.heap.size #[.int .i64 22, .int .i64 0, .bool false, .slice none 0 0] #[.int .i64 (k : Int), .int .i64 (lo : Int), .int .i64 (po : Int), .slice av d.length cv] dv dl W.heap.size by
    intro dv q1 w' o9 a1 a2 hx9
    have hlt6 := HF.out.b6.lt
    have hlt5 := HF.out.b5.lt
    have hsz := HF.out.below.size
    have hn5 := HF.out.n5
    have h56 := HF.out.t56
    have hqo : ∀ b, q.own b → b < W.heap.size := fun b hb => HF.out.q5 (.inl hb)
    refine ⟨(hN5.keep hd5).went a1 hondo a2 hx9, a2.1, o9.mono hsz, (HF.out.b5.keep hd5).ext hx9 (fun hq => by have := hqo _ hq; omega), (HF.out.b6.keep hd5).ext hx9 (fun hq => by have := hqo _ hq; omega), (Ext.ofBelow (HF.out.below.trans (hd5.mono hsz)) : Ext q.own W W4.drew).trans' hx9, ⟨Nat.le_refl _, fun hq => ?_, by omega, by omega⟩, a2.le hsz⟩
    rcases a2.2.2.2.2 _ hq with h9 | h9
    · have := HF.out.q5 h9
      omega
    · simp at h9
      omega)
  have hk := hid hk9
  have hF := hid hF9
  have K6 := hid HF.out.b6
  have K8 := hid HF.out.b8
  have hcd8 : (cd == 8) = false := beq_eq_false_iff_ne.2 hcode.1
  clear e0 e1 e2 e3 e4 e5 e6 hW3 hcode hondo hd5 hN5 hF9 hk9
  generalize hT6 : W2.heap.size = T6 at *
  generalize hT8 : T6 + 1 = T8 at *
  clear hT6 hT8 HF
  generalize hT5 : W.heap.size = T5 at *
  have HT5 := hid hT5
  clear hT5
  refine wp_region_stage [6, 11, 13] rfl (fun i => match i with | 7 => [30] | 8 => [30] | _ => []) (fun i => match i with | 1 => [30] | 2 => [30] | 3 => [30] | _ => []) (fun sk ts w => match sk with
      | 0 => w = W4.drew
      | 1 => ∃ dv q1, ts = [.tuple #[dv, .int .i64 cd]] ∧ (∃ a c, dv = .slice a dl.length c) ∧ AskAt W w n pv q q1 S' D' T5 T6 #[.int .i64 22, .int .i64 0, .bool false, .slice none 0 0] #[.int .i64 (k : Int), .int .i64 (lo : Int), .int .i64 (po : Int), .slice av d.length cv] dv dl T5
      | 2 => ∃ dv q1, ts = [.tuple #[dv, .int .i64 cd]] ∧ (∃ a c, dv = .slice a dl.length c) ∧ AskAt W w n pv q q1 S' D' T5 T6 #[.int .i64 22, .int .i64 0, .bool false, dv] #[.int .i64 (k : Int), .int .i64 (lo : Int), .int .i64 (po : Int), .slice av d.length cv] dv dl T5
      | 3 => ∃ dv q1, ts = [.tuple #[dv, .int .i64 cd]] ∧ (∃ a c, dv = .slice a dl.length c) ∧ AskAt W w n pv q q1 S' D' T5 T6 #[.int .i64 cd, .int .i64 0, .bool false, dv] #[.int .i64 (k : Int), .int .i64 (lo : Int), .int .i64 (po : Int), .slice av d.length cv] dv dl T5
      | _ => False) (fun i ts v => match i with
      | 0 => v = .pointer (some ⟨T6, 0, none⟩)
      | 1 => v = .int .i64 (k : Int)
      | 2 => v = .pointer (some ⟨T8, k, none⟩)
      | 3 => v = .func (.func F) #[] #[]
      | 4 => v = .pointer (some ⟨n, 0, none⟩)
      | 5 => v = .agg #[.int .i64 (k : Int), .int .i64 lo, .int .i64 po, .slice av d.length cv]
      | 6 => ∃ dv, v = .tuple #[dv, .int .i64 cd]
      | 7 => ∃ dv, v = .tuple #[dv, .int .i64 cd] ∧ ts = [v]
      | 8 => ts = [.tuple #[v, .int .i64 cd]]
      | 9 => v = .int .i64 cd
      | 10 => v = .pointer (some ⟨T5, 3, none⟩)
      | 11 => True
      | 12 => v = .pointer (some ⟨T5, 0, none⟩)
      | 13 => True
      | _ => True) (by kernel_rfl) (by kernel_rfl) (by kernel_rfl) (rfl) ?rsteps ?rfin
  case rsteps =>
    refine ⟨?_, ?_, ?_, ?_, ?_, ?_, ?_, ?_, ?_, ?_, ?_, ?_, ?_, ?_, trivial⟩
    · intro sk a x hat hJ hA
      have t6 := hA.at_ 6 (by rfl) rfl
      clear hat hJ
      refine .inl ⟨rfl, stage_value (w' := x) (v := .pointer (some ⟨T6, 0, none⟩)) ?_ ⟨_, rfl, rfl, rfl⟩⟩
      clear hA
      go_simp
    · intro sk a x hat hJ hA
      have t24 : a.tmps[24]?.getD undef = .pointer (some ⟨T6, 0, none⟩) := hA.dep_ ⟨0, .data⟩ (by simp) rfl _ 24 rfl rfl
      match sk, hat, hJ with
      | 0, hat, hJ =>
        obtain rfl := hJ
        have hb := K6.out.drew
        have g0 : W4.drew.cell? ⟨T6, 0, none⟩ = some (.int .i64 (k : Int)) := hb.cell (o := 0) rfl
        clear hb
        refine .inl ⟨rfl, stage_value (w' := _) (v := .int .i64 (k : Int)) ?_ ⟨_, rfl, rfl, rfl⟩⟩
        clear hA
        go_simp
      | 1, hat, _ => exact absurd (hat.symm.trans (by kernel_rfl : atStage _ _ _ _ = false)) (by decide)
      | 2, hat, _ => exact absurd (hat.symm.trans (by kernel_rfl : atStage _ _ _ _ = false)) (by decide)
      | 3, hat, _ => exact absurd (hat.symm.trans (by kernel_rfl : atStage _ _ _ _ = false)) (by decide)
      | sk + 4, _, hJ => exact hJ.elim
    · intro sk a x hat hJ hA
      have t8 := hA.at_ 8 (by rfl) rfl
      have t25 : a.tmps[25]?.getD undef = .int .i64 (k : Int) := hA.dep_ ⟨1, .data⟩ (by simp) rfl _ 25 rfl rfl
      clear hat hJ
      have hk1 := hk.out.1
      have hk7 : (k : Int) < 7 := by have := hk.out.2; omega
      refine .inl ⟨rfl, stage_value (w' := x) (v := .pointer (some ⟨T8, k, none⟩)) ?_ ⟨_, rfl, rfl, rfl⟩⟩
      clear hA
      go_simp
    · intro sk a x hat hJ hA
      have t26 : a.tmps[26]?.getD undef = .pointer (some ⟨T8, k, none⟩) := hA.dep_ ⟨2, .data⟩ (by simp) rfl _ 26 rfl rfl
      match sk, hat, hJ with
      | 0, hat, hJ =>
        obtain rfl := hJ
        have hb := K8.out.drew
        have g0 : W4.drew.cell? ⟨T8, k, none⟩ = some (.func (.func F) #[] #[]) := hb.cell (o := k) hF.out
        clear hb
        refine .inl ⟨rfl, stage_value (w' := _) (v := .func (.func F) #[] #[]) ?_ ⟨_, rfl, rfl, rfl⟩⟩
        clear hA
        go_simp
      | 1, hat, _ => exact absurd (hat.symm.trans (by kernel_rfl : atStage _ _ _ _ = false)) (by decide)
      | 2, hat, _ => exact absurd (hat.symm.trans (by kernel_rfl : atStage _ _ _ _ = false)) (by decide)
      | 3, hat, _ => exact absurd (hat.symm.trans (by kernel_rfl : atStage _ _ _ _ = false)) (by decide)
      | sk + 4, _, hJ => exact hJ.elim
    · intro sk a x hat hJ hA
      have t0 := hA.at_ 0 (by rfl) rfl
      clear hat hJ
      refine .inl ⟨rfl, stage_value (w' := x) (v := .pointer (some ⟨n, 0, none⟩)) ?_ ⟨_, rfl, rfl, rfl⟩⟩
      clear hA
      go_simp
    · intro sk a x hat hJ hA
      have t6 := hA.at_ 6 (by rfl) rfl
      match sk, hat, hJ with
      | 0, hat, hJ =>
        obtain rfl := hJ
        have hb := K6.out.drew
        have g0 : W4.drew.cell? ⟨T6, 0, none⟩ = some (.int .i64 (k : Int)) := hb.cell (o := 0) rfl
        have g1 : W4.drew.cell? ⟨T6, 1, none⟩ = some (.int .i64 lo) := hb.cell (o := 1) rfl
        have g2 : W4.drew.cell? ⟨T6, 2, none⟩ = some (.int .i64 po) := hb.cell (o := 2) rfl
        have g3 : W4.drew.cell? ⟨T6, 3, none⟩ = some (.slice av d.length cv) := hb.cell (o := 3) rfl
        clear hb
        refine .inl ⟨rfl, stage_value (w' := _) (v := .agg #[.int .i64 (k : Int), .int .i64 lo, .int .i64 po, .slice av d.length cv]) ?_ ⟨_, rfl, rfl, rfl⟩⟩
        clear hA
        go_simp
      | 1, hat, _ => exact absurd (hat.symm.trans (by kernel_rfl : atStage _ _ _ _ = false)) (by decide)
      | 2, hat, _ => exact absurd (hat.symm.trans (by kernel_rfl : atStage _ _ _ _ = false)) (by decide)
      | 3, hat, _ => exact absurd (hat.symm.trans (by kernel_rfl : atStage _ _ _ _ = false)) (by decide)
      | sk + 4, _, hJ => exact hJ.elim
    · intro a x hJ hA
      have t27 : a.tmps[27]?.getD undef = .func (.func F) #[] #[] := hA.dep_ ⟨3, .data⟩ (by simp) rfl _ 27 rfl rfl
      have t28 : a.tmps[28]?.getD undef = .pointer (some ⟨n, 0, none⟩) := hA.dep_ ⟨4, .data⟩ (by simp) rfl _ 28 rfl rfl
      have t29 : a.tmps[29]?.getD undef = .agg #[.int .i64 (k : Int), .int .i64 lo, .int .i64 po, .slice av d.length cv] := hA.dep_ ⟨5, .data⟩ (by simp) rfl _ 29 rfl rfl
      refine ⟨rfl, ?_⟩
      obtain rfl := hJ
      refine stage_call (f := F) (args := #[.pointer (some ⟨n, 0, none⟩), .agg #[.int .i64 (k : Int), .int .i64 lo, .int .i64 po, .slice av d.length cv]]) (by clear hA; have hcf9 := hCF; go_simp) (HH.out.mono ?_)
      rintro e w' ⟨dv, rfl, o9, ⟨q1, a1, a2⟩, hx, _⟩
      refine ⟨_, rfl, _, rfl, ⟨dv, q1, hA.put1 30 _ (by rfl), o9.form, HAsk.out dv q1 w' o9 a1 a2 hx⟩, dv, rfl⟩
    · intro sk a x hat hJ hA
      have t30 := hA.dep_ ⟨6, .data⟩ (by simp) rfl _ 30 rfl rfl
      clear hat hJ
      obtain ⟨dv, e30⟩ := t30
      refine .inl ⟨rfl, stage_value (w' := x) (v := .tuple #[dv, .int .i64 cd]) ?_ ⟨_, rfl, rfl, dv, rfl, ?_⟩⟩
      · clear hA
        go_simp
      · exact (tms1 a 30).trans (by rw [e30])
    · intro sk a x hat hJ hA
      have t23 := hA.dep_ ⟨7, .data⟩ (by simp) rfl _ 23 rfl rfl
      clear hat hJ
      obtain ⟨dv, e23, e30⟩ := t23
      refine .inl ⟨rfl, stage_value (w' := x) (v := dv) ?_ ⟨_, rfl, rfl, ?_⟩⟩
      · clear hA e30
        go_simp
      · rw [e23] at e30; exact e30
    · intro sk a x hat hJ hA
      have t23 := hA.dep_ ⟨7, .data⟩ (by simp) rfl _ 23 rfl rfl
      clear hat hJ
      obtain ⟨dv, e23, e30⟩ := t23
      refine .inl ⟨rfl, stage_value (w' := x) (v := .int .i64 cd) ?_ ⟨_, rfl, rfl, rfl⟩⟩
      clear hA e30
      go_simp
    · intro sk a x hat hJ hA
      have t5 := hA.at_ 5 (by rfl) rfl
      clear hat hJ
      refine .inl ⟨rfl, stage_value (w' := x) (v := .pointer (some ⟨T5, 3, none⟩)) ?_ ⟨_, rfl, rfl, rfl⟩⟩
      clear hA
      go_simp
    · intro a x hJ hA
      have t33 : a.tmps[33]?.getD undef = .pointer (some ⟨T5, 3, none⟩) := hA.dep_ ⟨10, .data⟩ (by simp) rfl _ 33 rfl rfl
      have t31 := hA.dep_ ⟨8, .data⟩ (by simp) rfl _ 31 rfl rfl
      refine ⟨rfl, ?_⟩
      obtain ⟨dv, q1, e30, hdv, hAt⟩ := hJ
      have e31 : a.tmps[31]?.getD undef = dv := by
        have : tms a [30] = [.tuple #[a.tmps[31]?.getD undef, .int .i64 cd]] := t31
        rw [show tms a [30] = _ from e30] at this
        simp only [List.cons.injEq, Value.tuple.injEq, and_true] at this
        have := congrArg (fun z : Array Value => z[0]?) this
        simpa using this.symm
      have g3 := hAt.b5.cell (o := 3) rfl
      have f3 := hAt.b5.free 3
      have hset := hid (hAt.set 3 dv)
      have E30 := hid e30
      obtain ⟨ad, cd9, rfl⟩ := hdv
      clear hAt e30 t31
      refine stage_skip (w' := x.setCell ⟨T5, 3, none⟩ (.slice ad dl.length cd9)) (by clear hA; go_simp) ⟨undef, rfl, ⟨_, q1, E30.out, ⟨_, _, rfl⟩, ?_⟩, trivial⟩
      have := hset.out
      simpa using this
    · intro sk a x hat hJ hA
      have t5 := hA.at_ 5 (by rfl) rfl
      clear hat hJ
      refine .inl ⟨rfl, stage_value (w' := x) (v := .pointer (some ⟨T5, 0, none⟩)) ?_ ⟨_, rfl, rfl, rfl⟩⟩
      clear hA
      go_simp
    · intro a x hJ hA
      have t34 : a.tmps[34]?.getD undef = .pointer (some ⟨T5, 0, none⟩) := hA.dep_ ⟨12, .data⟩ (by simp) rfl _ 34 rfl rfl
      have t32 : a.tmps[32]?.getD undef = .int .i64 cd := hA.dep_ ⟨9, .data⟩ (by simp) rfl _ 32 rfl rfl
      refine ⟨rfl, ?_⟩
      obtain ⟨dv, q1, e30, hdv, hAt⟩ := hJ
      have g0 := hAt.b5.cell (o := 0) rfl
      have f0 := hAt.b5.free 0
      have hset := hid (hAt.set 0 (.int .i64 cd))
      have E30 := hid e30
      clear hAt e30
      refine stage_skip (w' := x.setCell ⟨T5, 0, none⟩ (.int .i64 cd)) (by clear hA hdv; go_simp) ⟨undef, rfl, ⟨dv, q1, E30.out, hdv, ?_⟩, trivial⟩
      have := hset.out
      simpa using this
  case rfin =>
    intro y W' hJ hV
    obtain ⟨dv, q1, e30, hdv, hAt⟩ := hJ
    clear hV e30 HH HAsk hk hF K6 K8
    simp only [putAll, Act.put, List.setIfInBounds_toArray, List.set_cons_zero, List.set_cons_succ]
    have g0 := hAt.b5.cell (o := 0) rfl
    have HAt := hid hAt
    clear hAt
    go_wp2_with fail
    have H0 := hid (HAt.out.keep ((Below.refl _ W').drew : Below W'.heap.size W' W'.drew))
    clear HAt g0
    obtain ⟨TL, hTL⟩ : ∃ TL, tailF S' (lo : Int) = TL := ⟨_, rfl⟩
    obtain ⟨SLD, hSL⟩ : ∃ SLD, (S'.get (lo : Int)).2.2 = SLD := ⟨_, rfl⟩
    have HTL := hid hTL
    have HSL := hid hSL
    have HE1 := hid (show askF S D b = (putRepB cd TL SLD dl, S', D') by rw [HE.out, hTL, hSL])
    clear hTL hSL HE
    have HE := HE1
    clear HE1
    refine wp_region_stage [6, 13, 15, 17] rfl (fun i => match i with | _ => []) (fun i => match i with | _ => []) (fun sk ts w => match sk with
        | 0 => AskAt W w n pv q q1 S' D' T5 T6 #[.int .i64 cd, .int .i64 0, .bool false, dv] #[.int .i64 (k : Int), .int .i64 (lo : Int), .int .i64 (po : Int), .slice av d.length cv] dv dl T5
        | 1 => AskAt W w n pv q q1 S' D' T5 T6 #[.int .i64 cd, .int .i64 0, .bool false, dv] #[.int .i64 (k : Int), .int .i64 (lo : Int), .int .i64 (po : Int), .slice av d.length cv] dv dl T5
        | 2 => AskAt W w n pv q q1 S' D' T5 T6 #[.int .i64 cd, .int .i64 0, .bool false, dv] #[.int .i64 (k : Int), .int .i64 (lo : Int), .int .i64 (po : Int), .slice av d.length cv] dv dl T5
        | 3 => AskAt W w n pv q q1 S' D' T5 T6 #[.int .i64 cd, .int .i64 TL, .bool false, dv] #[.int .i64 (k : Int), .int .i64 (lo : Int), .int .i64 (po : Int), .slice av d.length cv] dv dl T5
        | 4 => AskAt W w n pv q q1 S' D' T5 T6 #[.int .i64 cd, .int .i64 TL, .bool SLD, dv] #[.int .i64 (k : Int), .int .i64 (lo : Int), .int .i64 (po : Int), .slice av d.length cv] dv dl T5
        | _ => False) (fun i ts v => match i with
        | 0 => v = .pointer (some ⟨n, 0, none⟩)
        | 1 => v = .pointer (some ⟨n, 0, none⟩)
        | 2 => v = .pointer (some ⟨n, 1, none⟩)
        | 3 => v = .pointer (some ⟨q1.s, 0, none⟩)
        | 4 => v = .pointer (some ⟨T6, 1, none⟩)
        | 5 => v = .int .i64 (lo : Int)
        | 6 => v = .int .i64 TL
        | 7 => v = .pointer (some ⟨n, 0, none⟩)
        | 8 => v = .pointer (some ⟨n, 0, none⟩)
        | 9 => v = .pointer (some ⟨n, 1, none⟩)
        | 10 => v = .pointer (some ⟨q1.s, 0, none⟩)
        | 11 => v = .pointer (some ⟨T6, 1, none⟩)
        | 12 => v = .int .i64 (lo : Int)
        | 13 => v = .bool SLD
        | 14 => v = .pointer (some ⟨T5, 1, none⟩)
        | 15 => True
        | 16 => v = .pointer (some ⟨T5, 2, none⟩)
        | 17 => True
        | _ => True) (by kernel_rfl) (by kernel_rfl) (by kernel_rfl) (H0.out) ?rsteps ?rfin
    case rsteps =>
      refine ⟨?_, ?_, ?_, ?_, ?_, ?_, ?_, ?_, ?_, ?_, ?_, ?_, ?_, ?_, ?_, ?_, ?_, ?_, trivial⟩
      · intro sk a x hat hJ hA
        have t0 := hA.at_ 0 (by rfl) rfl
        clear hat hJ
        refine .inl ⟨rfl, stage_value (w' := x) (v := .pointer (some ⟨n, 0, none⟩)) ?_ ⟨_, rfl, rfl, rfl⟩⟩
        clear hA
        go_simp
      · intro sk a x hat hJ hA
        have t41 : a.tmps[41]?.getD undef = .pointer (some ⟨n, 0, none⟩) := hA.dep_ ⟨0, .data⟩ (by simp) rfl _ 41 rfl rfl
        clear hat hJ
        refine .inl ⟨rfl, stage_value (w' := x) (v := .pointer (some ⟨n, 0, none⟩)) ?_ ⟨_, rfl, rfl, rfl⟩⟩
        clear hA
        go_simp
      · intro sk a x hat hJ hA
        have t42 : a.tmps[42]?.getD undef = .pointer (some ⟨n, 0, none⟩) := hA.dep_ ⟨1, .data⟩ (by simp) rfl _ 42 rfl rfl
        clear hat hJ
        refine .inl ⟨rfl, stage_value (w' := x) (v := .pointer (some ⟨n, 1, none⟩)) ?_ ⟨_, rfl, rfl, rfl⟩⟩
        clear hA
        go_simp
      · intro sk a x hat hJ hA
        have t43 : a.tmps[43]?.getD undef = .pointer (some ⟨n, 1, none⟩) := hA.dep_ ⟨2, .data⟩ (by simp) rfl _ 43 rfl rfl
        match sk, hat, hJ with
        | 0, hat, hJ =>
          have n1 := hJ.node.cell.cell (o := 1) rfl
          clear hJ
          refine .inl ⟨rfl, stage_value (w' := _) (v := .pointer (some ⟨q1.s, 0, none⟩)) ?_ ⟨_, rfl, rfl, rfl⟩⟩
          clear hA
          go_simp
        | 1, hat, hJ =>
          have n1 := hJ.node.cell.cell (o := 1) rfl
          clear hJ
          refine .inl ⟨rfl, stage_value (w' := _) (v := .pointer (some ⟨q1.s, 0, none⟩)) ?_ ⟨_, rfl, rfl, rfl⟩⟩
          clear hA
          go_simp
        | 2, hat, hJ =>
          have n1 := hJ.node.cell.cell (o := 1) rfl
          clear hJ
          refine .inl ⟨rfl, stage_value (w' := _) (v := .pointer (some ⟨q1.s, 0, none⟩)) ?_ ⟨_, rfl, rfl, rfl⟩⟩
          clear hA
          go_simp
        | 3, hat, hJ =>
          have n1 := hJ.node.cell.cell (o := 1) rfl
          clear hJ
          refine .inl ⟨rfl, stage_value (w' := _) (v := .pointer (some ⟨q1.s, 0, none⟩)) ?_ ⟨_, rfl, rfl, rfl⟩⟩
          clear hA
          go_simp
        | 4, hat, hJ =>
          have n1 := hJ.node.cell.cell (o := 1) rfl
          clear hJ
          refine .inl ⟨rfl, stage_value (w' := _) (v := .pointer (some ⟨q1.s, 0, none⟩)) ?_ ⟨_, rfl, rfl, rfl⟩⟩
          clear hA
          go_simp
        | sk + 5, _, hJ => exact hJ.elim
      · intro sk a x hat hJ hA
        have t6 := hA.at_ 6 (by rfl) rfl
        clear hat hJ
        refine .inl ⟨rfl, stage_value (w' := x) (v := .pointer (some ⟨T6, 1, none⟩)) ?_ ⟨_, rfl, rfl, rfl⟩⟩
        clear hA
        go_simp
      · intro sk a x hat hJ hA
        have t45 : a.tmps[45]?.getD undef = .pointer (some ⟨T6, 1, none⟩) := hA.dep_ ⟨4, .data⟩ (by simp) rfl _ 45 rfl rfl
        match sk, hat, hJ with
        | 0, hat, hJ =>
          have n1 := hJ.b6.cell (o := 1) rfl
          clear hJ
          refine .inl ⟨rfl, stage_value (w' := _) (v := .int .i64 (lo : Int)) ?_ ⟨_, rfl, rfl, rfl⟩⟩
          clear hA
          go_simp
        | 1, hat, hJ =>
          have n1 := hJ.b6.cell (o := 1) rfl
          clear hJ
          refine .inl ⟨rfl, stage_value (w' := _) (v := .int .i64 (lo : Int)) ?_ ⟨_, rfl, rfl, rfl⟩⟩
          clear hA
          go_simp
        | 2, hat, hJ =>
          have n1 := hJ.b6.cell (o := 1) rfl
          clear hJ
          refine .inl ⟨rfl, stage_value (w' := _) (v := .int .i64 (lo : Int)) ?_ ⟨_, rfl, rfl, rfl⟩⟩
          clear hA
          go_simp
        | 3, hat, hJ =>
          have n1 := hJ.b6.cell (o := 1) rfl
          clear hJ
          refine .inl ⟨rfl, stage_value (w' := _) (v := .int .i64 (lo : Int)) ?_ ⟨_, rfl, rfl, rfl⟩⟩
          clear hA
          go_simp
        | 4, hat, hJ =>
          have n1 := hJ.b6.cell (o := 1) rfl
          clear hJ
          refine .inl ⟨rfl, stage_value (w' := _) (v := .int .i64 (lo : Int)) ?_ ⟨_, rfl, rfl, rfl⟩⟩
          clear hA
          go_simp
        | sk + 5, _, hJ => exact hJ.elim
      · intro a x hJ hA
        have t44 : a.tmps[44]?.getD undef = .pointer (some ⟨q1.s, 0, none⟩) := hA.dep_ ⟨3, .data⟩ (by simp) rfl _ 44 rfl rfl
        have t46 : a.tmps[46]?.getD undef = .int .i64 (lo : Int) := hA.dep_ ⟨5, .data⟩ (by simp) rfl _ 46 rfl rfl
        refine ⟨rfl, ?_⟩
        refine stage_call (f := 84) (args := #[.pointer (some ⟨q1.s, 0, none⟩), .int .i64 (lo : Int)]) (by clear hA hJ; go_simp) ((store_Tail hJ.node.st (lo : Int)).mono ?_)
        rintro e w' ⟨rfl, hb9⟩
        exact ⟨_, rfl, _, rfl, hJ.keep hb9, by rw [← HTL.out]; rfl⟩
      · intro sk a x hat hJ hA
        have t0 := hA.at_ 0 (by rfl) rfl
        clear hat hJ
        refine .inl ⟨rfl, stage_value (w' := x) (v := .pointer (some ⟨n, 0, none⟩)) ?_ ⟨_, rfl, rfl, rfl⟩⟩
        clear hA
        go_simp
      · intro sk a x hat hJ hA
        have t48 : a.tmps[48]?.getD undef = .pointer (some ⟨n, 0, none⟩) := hA.dep_ ⟨7, .data⟩ (by simp) rfl _ 48 rfl rfl
        clear hat hJ
        refine .inl ⟨rfl, stage_value (w' := x) (v := .pointer (some ⟨n, 0, none⟩)) ?_ ⟨_, rfl, rfl, rfl⟩⟩
        clear hA
        go_simp
      · intro sk a x hat hJ hA
        have t49 : a.tmps[49]?.getD undef = .pointer (some ⟨n, 0, none⟩) := hA.dep_ ⟨8, .data⟩ (by simp) rfl _ 49 rfl rfl
        clear hat hJ
        refine .inl ⟨rfl, stage_value (w' := x) (v := .pointer (some ⟨n, 1, none⟩)) ?_ ⟨_, rfl, rfl, rfl⟩⟩
        clear hA
        go_simp
      · intro sk a x hat hJ hA
        have t50 : a.tmps[50]?.getD undef = .pointer (some ⟨n, 1, none⟩) := hA.dep_ ⟨9, .data⟩ (by simp) rfl _ 50 rfl rfl
        match sk, hat, hJ with
        | 0, hat, hJ =>
          have n1 := hJ.node.cell.cell (o := 1) rfl
          clear hJ
          refine .inl ⟨rfl, stage_value (w' := _) (v := .pointer (some ⟨q1.s, 0, none⟩)) ?_ ⟨_, rfl, rfl, rfl⟩⟩
          clear hA
          go_simp
        | 1, hat, hJ =>
          have n1 := hJ.node.cell.cell (o := 1) rfl
          clear hJ
          refine .inl ⟨rfl, stage_value (w' := _) (v := .pointer (some ⟨q1.s, 0, none⟩)) ?_ ⟨_, rfl, rfl, rfl⟩⟩
          clear hA
          go_simp
        | 2, hat, hJ =>
          have n1 := hJ.node.cell.cell (o := 1) rfl
          clear hJ
          refine .inl ⟨rfl, stage_value (w' := _) (v := .pointer (some ⟨q1.s, 0, none⟩)) ?_ ⟨_, rfl, rfl, rfl⟩⟩
          clear hA
          go_simp
        | 3, hat, hJ =>
          have n1 := hJ.node.cell.cell (o := 1) rfl
          clear hJ
          refine .inl ⟨rfl, stage_value (w' := _) (v := .pointer (some ⟨q1.s, 0, none⟩)) ?_ ⟨_, rfl, rfl, rfl⟩⟩
          clear hA
          go_simp
        | 4, hat, hJ =>
          have n1 := hJ.node.cell.cell (o := 1) rfl
          clear hJ
          refine .inl ⟨rfl, stage_value (w' := _) (v := .pointer (some ⟨q1.s, 0, none⟩)) ?_ ⟨_, rfl, rfl, rfl⟩⟩
          clear hA
          go_simp
        | sk + 5, _, hJ => exact hJ.elim
      · intro sk a x hat hJ hA
        have t6 := hA.at_ 6 (by rfl) rfl
        clear hat hJ
        refine .inl ⟨rfl, stage_value (w' := x) (v := .pointer (some ⟨T6, 1, none⟩)) ?_ ⟨_, rfl, rfl, rfl⟩⟩
        clear hA
        go_simp
      · intro sk a x hat hJ hA
        have t52 : a.tmps[52]?.getD undef = .pointer (some ⟨T6, 1, none⟩) := hA.dep_ ⟨11, .data⟩ (by simp) rfl _ 52 rfl rfl
        match sk, hat, hJ with
        | 0, hat, hJ =>
          have n1 := hJ.b6.cell (o := 1) rfl
          clear hJ
          refine .inl ⟨rfl, stage_value (w' := _) (v := .int .i64 (lo : Int)) ?_ ⟨_, rfl, rfl, rfl⟩⟩
          clear hA
          go_simp
        | 1, hat, hJ =>
          have n1 := hJ.b6.cell (o := 1) rfl
          clear hJ
          refine .inl ⟨rfl, stage_value (w' := _) (v := .int .i64 (lo : Int)) ?_ ⟨_, rfl, rfl, rfl⟩⟩
          clear hA
          go_simp
        | 2, hat, hJ =>
          have n1 := hJ.b6.cell (o := 1) rfl
          clear hJ
          refine .inl ⟨rfl, stage_value (w' := _) (v := .int .i64 (lo : Int)) ?_ ⟨_, rfl, rfl, rfl⟩⟩
          clear hA
          go_simp
        | 3, hat, hJ =>
          have n1 := hJ.b6.cell (o := 1) rfl
          clear hJ
          refine .inl ⟨rfl, stage_value (w' := _) (v := .int .i64 (lo : Int)) ?_ ⟨_, rfl, rfl, rfl⟩⟩
          clear hA
          go_simp
        | 4, hat, hJ =>
          have n1 := hJ.b6.cell (o := 1) rfl
          clear hJ
          refine .inl ⟨rfl, stage_value (w' := _) (v := .int .i64 (lo : Int)) ?_ ⟨_, rfl, rfl, rfl⟩⟩
          clear hA
          go_simp
        | sk + 5, _, hJ => exact hJ.elim
      · intro a x hJ hA
        have t51 : a.tmps[51]?.getD undef = .pointer (some ⟨q1.s, 0, none⟩) := hA.dep_ ⟨10, .data⟩ (by simp) rfl _ 51 rfl rfl
        have t53 : a.tmps[53]?.getD undef = .int .i64 (lo : Int) := hA.dep_ ⟨12, .data⟩ (by simp) rfl _ 53 rfl rfl
        refine ⟨rfl, ?_⟩
        refine stage_call (f := 85) (args := #[.pointer (some ⟨q1.s, 0, none⟩), .int .i64 (lo : Int)]) (by clear hA hJ; go_simp) ((store_Sealed hJ.node.st (lo : Int)).mono ?_)
        rintro e w' ⟨rfl, hb9⟩
        exact ⟨_, rfl, _, rfl, hJ.keep hb9, congrArg Value.bool HSL.out⟩
      · intro sk a x hat hJ hA
        have t5 := hA.at_ 5 (by rfl) rfl
        clear hat hJ
        refine .inl ⟨rfl, stage_value (w' := x) (v := .pointer (some ⟨T5, 1, none⟩)) ?_ ⟨_, rfl, rfl, rfl⟩⟩
        clear hA
        go_simp
      · intro a x hJ hA
        have t55 : a.tmps[55]?.getD undef = .pointer (some ⟨T5, 1, none⟩) := hA.dep_ ⟨14, .data⟩ (by simp) rfl _ 55 rfl rfl
        have t47 : a.tmps[47]?.getD undef = .int .i64 TL := hA.dep_ ⟨6, .data⟩ (by simp) rfl _ 47 rfl rfl
        refine ⟨rfl, ?_⟩
        have g3 := hJ.b5.cell (o := 1) rfl
        have f3 := hJ.b5.free 1
        have hset := hid (hJ.set 1 (.int .i64 TL))
        clear hJ
        refine stage_skip (w' := x.setCell ⟨T5, 1, none⟩ (.int .i64 TL)) (by clear hA; go_simp) ⟨undef, rfl, ?_, trivial⟩
        have := hset.out
        simpa using this
      · intro sk a x hat hJ hA
        have t5 := hA.at_ 5 (by rfl) rfl
        clear hat hJ
        refine .inl ⟨rfl, stage_value (w' := x) (v := .pointer (some ⟨T5, 2, none⟩)) ?_ ⟨_, rfl, rfl, rfl⟩⟩
        clear hA
        go_simp
      · intro a x hJ hA
        have t56 : a.tmps[56]?.getD undef = .pointer (some ⟨T5, 2, none⟩) := hA.dep_ ⟨16, .data⟩ (by simp) rfl _ 56 rfl rfl
        have t54 : a.tmps[54]?.getD undef = .bool SLD := hA.dep_ ⟨13, .data⟩ (by simp) rfl _ 54 rfl rfl
        refine ⟨rfl, ?_⟩
        have g3 := hJ.b5.cell (o := 2) rfl
        have f3 := hJ.b5.free 2
        have hset := hid (hJ.set 2 (.bool SLD))
        clear hJ
        refine stage_skip (w' := x.setCell ⟨T5, 2, none⟩ (.bool SLD)) (by clear hA; go_simp) ⟨undef, rfl, ?_, trivial⟩
        have := hset.out
        simpa using this
    case rfin =>
      intro y W'' hJ hV
      clear hV H0
      simp only [putAll, Act.put, List.setIfInBounds_toArray, List.set_cons_zero, List.set_cons_succ]
      have g0 := hJ.b5.cell (o := 0) rfl
      have g1 := hJ.b5.cell (o := 1) rfl
      have g2 := hJ.b5.cell (o := 2) rfl
      have g3 := hJ.b5.cell (o := 3) rfl
      have hPR := put_reply cd TL SLD dv dl W'' hJ.own.bs
      have HPR := hid hPR
      have HAt := hid hJ
      clear hJ hPR
      go_wp2_with fail
      refine HPR.out.mono ?_
      rintro e w' ⟨v', c, rfl, ho, hb, _⟩
      have HO := hid (And.intro ho hb)
      clear HPR g0 g1 g2 g3 ho hb
      go_wp2_with fail
      go_ret
      rw [HE.out]
      have hAt := HAt.out
      have hB := HO.out.2
      have hsz := hAt.x.size
      exact ⟨_, rfl, HO.out.1.mono hsz, ⟨q1, hAt.node.keep hB, HT5.out ▸ hAt.went⟩, hAt.x.then hB⟩

end

end Go.Proofs.YtbahjinlcbjikaaGreat
