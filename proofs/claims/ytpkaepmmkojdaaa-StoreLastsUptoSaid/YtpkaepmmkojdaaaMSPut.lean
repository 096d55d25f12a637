import Derived.Test.YtpkaepmmkojdaaaSWrite
/-! Package store, on: write, where no blocks are left. -/
namespace Go.Proofs.Ytpkaepmmkojdaaa
open Go.RowKit
attribute [local go_sem] Oper.semAt_some

section
variable {W : World} {q : StP} {S S1 : St} {D : Dk}

set_option maxRecDepth 100000 in
set_option maxHeartbeats 1600000 in
theorem store_write_full (h : StAt W q S D) (kd lo po : Int) (v : Value) (l : List UInt8) (hv : Bs W v l) (hl : l.length ≤ 65536)
    (hk0 : 0 ≤ kd) (hk1 : kd ≤ 255) (l0 : 0 ≤ lo) (l1 : lo < 281474976710656) (p0 : 0 ≤ po) (p1 : po < 281474976710656)
    (hfit : ¬ S.fin + chunks (entryB kd lo po l) ≤ D.texts.length) :
    Calls Try.prog 44 #[.pointer (some ⟨q.s, 0, none⟩), .agg #[.int .i64 kd, .int .i64 lo, .int .i64 po, v]] W fun e w' => e = .returned (.int .i64 7) ∧ Below W.heap.size W w' := by
  obtain ⟨av, cv, rfl⟩ := hv.form
  obtain ⟨EB, hEB⟩ : ∃ EB, EB = entryB kd lo po l := ⟨_, rfl⟩
  rw [← hEB] at hfit
  obtain ⟨W1, hW1⟩ : ∃ W1, W.alloc (.cells #[.pointer (some ⟨q.s, 0, none⟩)] 27) = W1 := ⟨_, rfl⟩
  obtain ⟨W2, hW2⟩ : ∃ W2, W1.alloc (.cells #[.int .i64 kd, .int .i64 lo, .int .i64 po, .slice av l.length cv] 62) = W2 := ⟨_, rfl⟩
  have s1 : W1.heap.size = W.heap.size + 1 := by rw [← hW1]; simp
  have s2 : W2.heap.size = W.heap.size + 2 := by rw [← hW2]; simp [s1]
  have b2 : Below W.heap.size W W2 := by rw [← hW2, ← hW1]; exact ((Below.refl _ W).alloc (Nat.le_refl _) _).alloc (by simp) _
  have r0 : Blk W2 W.heap.size #[.pointer (some ⟨q.s, 0, none⟩)] 27 := by rw [← hW2, ← hW1]; exact (Blk.new W _ _).alloc _
  have r1 : Blk W2 (W.heap.size + 1) #[.int .i64 kd, .int .i64 lo, .int .i64 po, .slice av l.length cv] 62 := by rw [← hW2]; exact Blk.new' W1 _ s1.symm _ _
  obtain ⟨W3, hW3⟩ : ∃ W3, W2.alloc (.cells #[.int .i64 0] 24) = W3 := ⟨_, rfl⟩
  have s3 : W3.heap.size = W.heap.size + 3 := by rw [← hW3]; simp [s2]
  have r2 : Blk W3 (W.heap.size + 2) #[.int .i64 0] 24 := by rw [← hW3]; exact Blk.new' W2 _ s2.symm _ _
  have b3 : Below W2.heap.size W2 W3 := by rw [← hW3]; exact (Below.refl _ W2).alloc (Nat.le_refl _) _
  have r0 := r0.keep b3
  have r1 := r1.keep b3
  have b4 : Below W.heap.size W W3 := b2.trans (b3.mono b2.size)
  have e0 := r1.cell (o := 0) rfl
  have e1 := r1.cell (o := 1) rfl
  have e2 := r1.cell (o := 2) rfl
  have e3 := r1.cell (o := 3) rfl
  refine callsIn_wide.1 (callsIn_of_wp_marks (n := 0) Try.func44 rfl trivial ?_)
  simp only [Try.ntmps44, List.size_toArray, List.length_cons, List.length_nil, Nat.reduceAdd, Nat.reduceSub, Array.replicate_succ, Array.replicate_zero, List.push_toArray, List.append_toArray, List.nil_append, List.cons_append]
  gi_wp2
  refine ⟨trivial, rfl, callsIn_wide.2 ((entry_bytes kd lo po _ l W3 hk0 hk1 l0 l1 p0 p1 (hv.keep b4) (by omega)).mono ?_)⟩
  rintro e W4 ⟨v5, rfl, o5, b5⟩
  rw [← hEB] at o5
  have hEl : EB.length ≤ l.length + 13 := by rw [hEB]; simp [entryB, lowB_length]; omega
  obtain ⟨a5, c5, rfl⟩ := o5.form
  have q0 := r0.keep b5
  have q1 := r1.keep b5
  have q2 := r2.keep b5
  have h4 := (h.keep b4).keep b5
  have b6 : Below W.heap.size W W4 := b4.trans (b5.mono b4.size)
  have hs4 := b5.size
  have hdv : ((EB.length : Int) + 240 - 1) / 240 = (chunks EB : Int) := by unfold chunks; omega
  have hd2 : Int.tdiv ((EB.length : Int) + 240 - 1) 240 = (chunks EB : Int) := by rw [Int.tdiv_eq_ediv_of_nonneg (by omega)]; exact hdv
  have z0 := q0.cell (o := 0) rfl
  have hmost := h.disk.most
  have hch : chunks EB ≤ 274 := by unfold chunks; omega
  have hEBh := hid hEB
  clear hEB hW1 hW2 hW3 s1 s2 r0 r1 r2 e0 e1 e2 e3 b2 b3 b4
  gi_wp2
  refine ⟨trivial, rfl, callsIn_wide.2 ((store_Free h4).mono ?_)⟩
  rintro e W5 ⟨rfl, b7⟩
  have q2 := q2.keep b7
  have b8 : Below W.heap.size W W5 := b6.trans (b7.mono b6.size)
  have hbd := h.bound.1
  have hd3 : decide ((chunks EB : Int) > ((D.texts.length - S.fin : Nat) : Int)) = true := decide_eq_true (by omega)
  have z4 := q2.cell (o := 0) rfl
  have f4 := q2.free 0
  clear h4 o5 b6 b7 hdv hd2
  gi_wp2
  have hr := (q2.set (o := 0) (.int .i64 7)).cell (o := 0) rfl
  have bz := b8.setCell (p := ⟨W.heap.size + 2, 0, none⟩) (by simp) (.int .i64 7)
  generalize W5.setCell ⟨W.heap.size + 2, 0, none⟩ (.int .i64 7) = WA at *
  exact ⟨.int .i64 7, by simp [results, Try.results44, go_sem, hr], rfl, bz⟩

end

end Go.Proofs.Ytpkaepmmkojdaaa

/-! Package store, on: Put. -/
namespace Go.Proofs.Ytpkaepmmkojdaaa
open Go.RowKit

/-- The store lies where it lay; its blocks: what they were, and new ones. -/
def Went (q q' : StP) (B : Nat) : Prop := q'.s = q.s ∧ q'.ms = q.ms ∧ q'.mt = q.mt ∧ SameDk q'.p q.p ∧ ∀ b, q'.all b → q.all b ∨ B ≤ b
theorem Went.refl (q : StP) (B : Nat) : Went q q B := ⟨rfl, rfl, rfl, SameDk.refl _, fun _ h => .inl h⟩
theorem Went.le {q q' : StP} {B B' : Nat} (h : Went q q' B) (hb : B' ≤ B) : Went q q' B' := ⟨h.1, h.2.1, h.2.2.1, h.2.2.2.1, fun b hb' => (h.2.2.2.2 b hb').imp id (fun h => Nat.le_trans hb h)⟩
theorem Went.trans {q q' q'' : StP} {B : Nat} (h : Went q q' B) (k : Went q' q'' B) : Went q q'' B :=
  ⟨k.1.trans h.1, k.2.1.trans h.2.1, k.2.2.1.trans h.2.2.1, ⟨k.2.2.2.1.1.trans h.2.2.2.1.1, k.2.2.2.1.2.trans h.2.2.2.1.2⟩, fun b hb => (k.2.2.2.2 b hb).elim (fun h9 => h.2.2.2.2 b h9) .inr⟩
theorem Went.own {q q' : StP} {B : Nat} (h : Went q q' B) : q'.own = q.own := by
  funext b
  unfold StP.own
  rw [h.1, h.2.1, h.2.2.1, h.2.2.2.1.1]

/-- Power is on, nothing is pending. -/
structure On (S : St) (D : Dk) : Prop where
  fallen : S.fallen = false
  off : D.off = false
  fuse : D.fuse = -1
  vers : ∀ k, D.vers k = none

/-- What an entry's write does: the code, the store, the disk. -/
def writeF (S S1 : St) (D : Dk) (kd lo po : Int) (l : List UInt8) : Int × St × Dk :=
  if S.fin + chunks (entryB kd lo po l) ≤ D.texts.length then (0, { S1 with fin := S.fin + chunks (entryB kd lo po l), num := S.num + 1 }, (D.wrote S.fin (entryB kd lo po l) S.num (chunks (entryB kd lo po l))).synced) else (7, S, D)
def applyPut (S : St) (lo po : Int) (l : List UInt8) : St := (S.setSlot (lo, po) l).setState lo (max (S.get lo).1 (po + 1), (S.get lo).2.1, (S.get lo).2.2)
def applySeal (S : St) (lo : Int) : St := S.setState lo ((S.get lo).1, (S.get lo).2.1, true)
def applyTrim (S : St) (lo po : Int) : St := S.setState lo ((S.get lo).1, max (S.get lo).2.1 po, (S.get lo).2.2)
def putF (S : St) (D : Dk) (lo po : Int) (l : List UInt8) (repair : Bool) : Int × St × Dk :=
  if po < (S.get lo).2.1 then (32, S, D) else
  match S.slots (lo, po) with
  | some old => if old = l then (0, S, D) else (31, S, D)
  | none => if (S.get lo).2.2 && !repair then (30, S, D) else writeF S (applyPut S lo po l) D 1 lo po l

theorem writeF_on {S S1 : St} {D : Dk} (h : On S D) (h1 : S1.fallen = S.fallen) (kd lo po : Int) (l : List UInt8) : On (writeF S S1 D kd lo po l).2.1 (writeF S S1 D kd lo po l).2.2 := by
  unfold writeF
  split
  · exact ⟨h1.trans h.fallen, h.off, h.fuse, fun _ => rfl⟩
  · exact h
theorem putF_on {S : St} {D : Dk} (h : On S D) (lo po : Int) (l : List UInt8) (r : Bool) : On (putF S D lo po l r).2.1 (putF S D lo po l r).2.2 := by
  unfold putF
  by_cases h1 : po < (S.get lo).2.1
  · rw [if_pos h1]; exact h
  · rw [if_neg h1]
    cases S.slots (lo, po) with
    | some old =>
      by_cases h2 : old = l
      · simp only [h2, if_true]; exact h
      · simp only [h2, if_false]; exact h
    | none =>
      cases h3 : ((S.get lo).2.2 && !r)
      · simp only [Bool.false_eq_true, if_false]
        exact writeF_on (S1 := applyPut S lo po l) h rfl 1 lo po l
      · simp only [if_true]
        exact h

section
variable {W : World} {q : StP} {S S1 : St} {D : Dk}

theorem chunks_entry (kd lo po : Int) (l : List UInt8) : 1 ≤ chunks (entryB kd lo po l) := by
  unfold chunks entryB
  simp [lowB_length]
  omega

theorem store_write_put (h : StAt W q S D) (hon : On S D) (lo po : Int) (v : Value) (l : List UInt8) (hv : Bs W v l) (hvo : ∀ g, v.ownBlock = some g → ¬ q.all g) (hl : l.length ≤ 65536)
    (l0 : 0 ≤ lo) (l1 : lo < 281474976710656) (p0 : 0 ≤ po) (p1 : po < 281474976710656) :
    Calls Try.prog 44 #[.pointer (some ⟨q.s, 0, none⟩), .agg #[.int .i64 1, .int .i64 lo, .int .i64 po, v]] W fun e w' => e = .returned (.int .i64 (writeF S (applyPut S lo po l) D 1 lo po l).1) ∧ (∃ q', StAt w' q' (writeF S (applyPut S lo po l) D 1 lo po l).2.1 (writeF S (applyPut S lo po l) D 1 lo po l).2.2 ∧ Went q q' W.heap.size) ∧ Ext q.own W w' := by
  unfold writeF
  by_cases hfit : S.fin + chunks (entryB 1 lo po l) ≤ D.texts.length
  · rw [if_pos hfit]
    refine (store_write_ok (S1 := applyPut S lo po l) h hon.off hon.fuse hon.vers 1 lo po v l hv hvo hl (by omega) (by omega) l0 l1 p0 p1 hfit rfl rfl ?_).mono ?_
    · intro D' W1 q1 hS1 _ hlen v1 hv1
      refine store_do_put hS1 lo po v1 l hv1 _ (chunks_entry 1 lo po l) (by rw [hlen]; exact hfit) rfl rfl ?_
      intro W2 hS2 hv2
      refine (store_put hS2 1 lo po v1 l hv2 hl p0 p1).mono ?_
      rintro e w' ⟨⟨v9, rfl⟩, ⟨q', h1, h2, h3, h4, h5, h6, _⟩, hx⟩
      exact ⟨⟨v9, rfl⟩, ⟨q', h1, h2, h3, h4, h5, h6⟩, hx⟩
    · rintro e w' ⟨rfl, ⟨q', h1, h2, h3, h4, h5, h6⟩, hx⟩
      exact ⟨rfl, ⟨q', h1, h2, h3, h4, h5, h6⟩, hx⟩
  · rw [if_neg hfit]
    refine (store_write_full h 1 lo po v l hv hl (by omega) (by omega) l0 l1 p0 p1 hfit).mono ?_
    rintro e w' ⟨rfl, hb⟩
    exact ⟨rfl, ⟨q, h.keep hb, Went.refl _ _⟩, Ext.ofBelow hb⟩

theorem store_slot_get (h : StAt W q S D) (k : Int × Int) : ∃ ov, (Instr.lookup 57 (.map (some q.ms)) (encS k) true).run Try.prog W = .ok (.tuple #[ov, .bool (S.slots k).isSome]) W ∧ Bs W ov ((S.slots k).getD []) ∧ (∀ g, ov.ownBlock = some g → q.U g) := by
  obtain ⟨es, c, hm, hr, hv⟩ := h.slots
  have hlk := run_lookup_raw (P := Try.prog) keyLaw_slot hm Try.underlying57 k (z := .slice none 0 0) (fun w => by kernel_rfl) true
  simp only [if_true] at hlk
  cases hh : mhas es k
  · have := hr k
    rw [hh] at this
    cases hs : S.slots k with
    | none =>
      rw [mget_none hh, hh] at hlk
      exact ⟨_, hlk, Bs.nil W, fun g hg => by simp [Value.ownBlock] at hg⟩
    | some x => rw [hs] at this; cases this
  · obtain ⟨e, he, hk, hg⟩ := mget_mem hh
    obtain ⟨l, q1, q2, q3⟩ := hv e he
    rw [hk] at q1
    rw [hg, hh] at hlk
    refine ⟨e.v, by rw [hlk, q1]; rfl, ?_, q2.2⟩
    rw [q1]
    exact q2.1

set_option maxRecDepth 100000 in
set_option maxHeartbeats 1600000 in
theorem store_Put (h : StAt W q S D) (hon : On S D) (lo po : Int) (v : Value) (l : List UInt8) (repair : Bool) (hv : Bs W v l) (hvo : ∀ g, v.ownBlock = some g → ¬ q.all g) (hl : l.length ≤ 65536)
    (l0 : 0 ≤ lo) (l1 : lo < 281474976710656) (p0 : 0 ≤ po) (p1 : po ≤ 4095) :
    Calls Try.prog 21 #[.pointer (some ⟨q.s, 0, none⟩), .int .i64 lo, .int .i64 po, v, .bool repair] W fun e w' => e = .returned (.int .i64 (putF S D lo po l repair).1) ∧ (∃ q', StAt w' q' (putF S D lo po l repair).2.1 (putF S D lo po l repair).2.2 ∧ Went q q' W.heap.size) ∧ Ext q.own W w' := by
  obtain ⟨av, cv, rfl⟩ := hv.form
  have hmay := store_may h lo po 4095
  rw [if_pos ⟨l0, l1, p0, p1⟩] at hmay
  go_enter Try.func21, Try.ntmps21
  go_wp2_with fail
  refine hmay.mono ?_
  rintro e W1 ⟨rfl, b1⟩
  have h1 := h.keep b1
  have hd1 : decide ((l.length : Int) > 65536) = false := decide_eq_false (by omega)
  clear hmay
  go_wp2_with fail
  refine (store_down h1).mono ?_
  rintro e W2 ⟨rfl, b2⟩
  rw [hon.fallen, hon.off]
  have h2 := h1.keep b2
  have hb2 := b1.trans (b2.mono b1.size)
  have hv2 := hv.keep hb2
  have c1 := h2.cell.cell (o := 1) rfl
  have c2 := h2.cell.cell (o := 2) rfl
  have hlk := store_lookup h2 lo
  clear h1 b1 b2
  obtain ⟨tl, tr, sl, hget, k1, k2, k3, k4⟩ := S.get_form h lo
  rw [hget] at hlk
  simp only [stV] at hlk
  have Hget := hid hget
  clear hget
  have b3 : Below W2.heap.size W2 (W2.alloc (.cells #[.int .i64 tl, .int .i64 tr, .bool sl] 93)) := (Below.refl _ W2).alloc (Nat.le_refl _) _
  have h3 := h2.keep b3
  have hv3 := hv2.keep b3
  have bX := Blk.new W2 #[.int .i64 tl, .int .i64 tr, .bool sl] 93
  have x1 := bX.cell (o := 1) rfl
  have x2 := bX.cell (o := 2) rfl
  have c13 := h3.cell.cell (o := 1) rfl
  obtain ⟨ov, hls, hbo, hou⟩ := store_slot_get h3 (lo, po)
  simp only [encS] at hls
  have hb3 := hb2.trans (b3.mono hb2.size)
  have Hb := hid (And.intro h3 (And.intro hv3 (And.intro hbo hb3)))
  clear h3 hv3 hbo hb3 h2 hv2 hb2 b3 bX
  simp only [Bool.or_self]
  cases hsl : S.slots (lo, po) with
  | none =>
    rw [hsl] at hls
    simp only [Option.isSome_none] at hls
    by_cases hpt : po < tr
    · have hd2 : decide (po < tr) = true := decide_eq_true hpt
      go_wp2_with fail
      have hF : putF S D lo po l repair = (32, S, D) := by unfold putF; rw [Hget.out, if_pos hpt]
      have HF := hid hF
      clear hF
      go_ret
      rw [HF.out]
      exact ⟨rfl, ⟨q, Hb.out.1, Went.refl _ _⟩, Ext.ofBelow Hb.out.2.2.2⟩
    · have hd2 : decide (po < tr) = false := decide_eq_false hpt
      by_cases hse : (sl && !repair) = true
      · have hF : putF S D lo po l repair = (30, S, D) := by
          unfold putF
          rw [Hget.out, if_neg hpt, hsl]
          simp only [hse, if_true]
        have HF := hid hF
        clear hF
        obtain ⟨rfl, rfl⟩ : sl = true ∧ repair = false := by simpa using hse
        go_wp2_with fail
        go_ret
        rw [HF.out]
        exact ⟨rfl, ⟨q, Hb.out.1, Went.refl _ _⟩, Ext.ofBelow Hb.out.2.2.2⟩
      · have hF : putF S D lo po l repair = writeF S (applyPut S lo po l) D 1 lo po l := by
          unfold putF
          rw [Hget.out, if_neg hpt, hsl]
          have hse' : (sl && !repair) = false := by simpa using hse
          simp only [hse', Bool.false_eq_true, if_false]
        have HF := hid hF
        clear hF
        have hwr := store_write_put Hb.out.1 hon lo po _ l Hb.out.2.1 hvo hl l0 l1 p0 (by omega)
        have Hwr := hid hwr
        clear hwr
        have hse2 : sl = false ∨ repair = true := by
          cases sl <;> cases repair <;> simp at hse ⊢
        have fin : ∀ e w', (e = Ending.returned (.int .i64 (writeF S (applyPut S lo po l) D 1 lo po l).1) ∧ (∃ q', StAt w' q' (writeF S (applyPut S lo po l) D 1 lo po l).2.1 (writeF S (applyPut S lo po l) D 1 lo po l).2.2 ∧ Went q q' (W2.alloc (.cells #[.int .i64 tl, .int .i64 tr, .bool sl] 93)).heap.size) ∧ Ext q.own (W2.alloc (.cells #[.int .i64 tl, .int .i64 tr, .bool sl] 93)) w') →
            e = Ending.returned (.int .i64 (putF S D lo po l repair).1) ∧ (∃ q', StAt w' q' (putF S D lo po l repair).2.1 (putF S D lo po l repair).2.2 ∧ Went q q' W.heap.size) ∧ Ext q.own W w' := by
          rintro e w' ⟨rfl, ⟨q', a1, a2⟩, a3⟩
          rw [HF.out]
          exact ⟨rfl, ⟨q', a1, a2.le Hb.out.2.2.2.size⟩, (Ext.ofBelow Hb.out.2.2.2 : Ext q.own W _).trans' a3⟩
        have Fin := hid fin
        clear fin
        rcases hse2 with rfl | rfl
        · go_wp2_with fail
          refine Hwr.out.mono ?_
          rintro e w' hpost
          obtain ⟨rfl, r1⟩ := hpost
          have hfin := Fin.out _ w' ⟨rfl, r1⟩
          go_wp2_with fail
          go_ret
          exact hfin
        · cases sl
          · go_wp2_with fail
            refine Hwr.out.mono ?_
            rintro e w' hpost
            obtain ⟨rfl, r1⟩ := hpost
            have hfin := Fin.out _ w' ⟨rfl, r1⟩
            go_wp2_with fail
            go_ret
            exact hfin
          · go_wp2_with fail
            refine Hwr.out.mono ?_
            rintro e w' hpost
            obtain ⟨rfl, r1⟩ := hpost
            have hfin := Fin.out _ w' ⟨rfl, r1⟩
            go_wp2_with fail
            go_ret
            exact hfin
  | some old =>
    rw [hsl] at hls
    simp only [Option.isSome_some] at hls
    by_cases hpt : po < tr
    · have hd2 : decide (po < tr) = true := decide_eq_true hpt
      have hF : putF S D lo po l repair = (32, S, D) := by unfold putF; rw [Hget.out, if_pos hpt]
      have HF := hid hF
      clear hF
      go_wp2_with fail
      go_ret
      rw [HF.out]
      exact ⟨rfl, ⟨q, Hb.out.1, Went.refl _ _⟩, Ext.ofBelow Hb.out.2.2.2⟩
    · have hd2 : decide (po < tr) = false := decide_eq_false hpt
      have heq := bytes_Equal ov _ old l _ (by have := Hb.out.2.2.1; rw [hsl] at this; exact this) Hb.out.2.1
      have Heq := hid heq
      clear heq
      by_cases hol : old = l
      · have hF : putF S D lo po l repair = (0, S, D) := by
          unfold putF
          rw [Hget.out, if_neg hpt, hsl]
          simp only [hol, if_true]
        have HF := hid hF
        clear hF
        have hbe : (old == l) = true := by rw [hol]; exact beq_self_eq_true l
        go_wp2_with fail
        refine Heq.out.mono ?_
        rintro e W4 ⟨rfl, rfl⟩
        rw [hbe]
        go_wp2_with fail
        go_ret
        rw [HF.out]
        exact ⟨rfl, ⟨q, Hb.out.1, Went.refl _ _⟩, Ext.ofBelow Hb.out.2.2.2⟩
      · have hF : putF S D lo po l repair = (31, S, D) := by
          unfold putF
          rw [Hget.out, if_neg hpt, hsl]
          simp only [hol, if_false]
        have HF := hid hF
        clear hF
        have hbe : (old == l) = false := beq_eq_false_iff_ne.2 hol
        go_wp2_with fail
        refine Heq.out.mono ?_
        rintro e W4 ⟨rfl, rfl⟩
        rw [hbe]
        go_wp2_with fail
        go_ret
        rw [HF.out]
        exact ⟨rfl, ⟨q, Hb.out.1, Went.refl _ _⟩, Ext.ofBelow Hb.out.2.2.2⟩
end

end Go.Proofs.Ytpkaepmmkojdaaa
