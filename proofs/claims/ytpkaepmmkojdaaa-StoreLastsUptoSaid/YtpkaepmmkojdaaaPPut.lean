import Derived.Test.YtpkaepmmkojdaaaPWrite
import Derived.Test.YtpkaepmmkojdaaaMSGet
/-! Package store, on: Put, Seal, Trim, whatever the fuse and the power. -/
namespace Go.Proofs.Ytpkaepmmkojdaaa
open Go.RowKit
theorem writeP_ok {S S1 : St} {D : Dk} {kd lo po : Int} {l : List UInt8} (hfit : S.fin + chunks (entryB kd lo po l) ≤ D.texts.length) (hl : D.lives (chunks (entryB kd lo po l) + 1)) :
    writeP S S1 D kd lo po l = (0, { S1 with fin := S.fin + chunks (entryB kd lo po l), num := S.num + 1 }, ((D.burn (chunks (entryB kd lo po l) + 1)).wrote S.fin (entryB kd lo po l) S.num (chunks (entryB kd lo po l))).synced) := by
  unfold writeP
  rw [if_pos hfit, if_pos hl]
theorem writeP_no {S S1 : St} {D : Dk} {kd lo po : Int} {l : List UInt8} (hfit : S.fin + chunks (entryB kd lo po l) ≤ D.texts.length) (m : Nat) (hm : m < chunks (entryB kd lo po l) + 1) (h1 : D.lives m) (h2 : ¬ D.lives (m + 1)) :
    writeP S S1 D kd lo po l = (8, { S with fallen := true }, D.cutAt S.fin (entryB kd lo po l) S.num m) := by
  have h3 : ¬ D.fuse < 0 := fun h => h2 (.inl h)
  have h4 : ¬ ((m + 1 : Nat) : Int) ≤ D.fuse := fun h => h2 (.inr h)
  have h5 : D.fuse.toNat = m := by
    rcases h1 with h | h
    · exact absurd h h3
    · omega
  unfold writeP
  rw [if_pos hfit, if_neg (fun h => h2 (Dk.lives_le h (by omega))), h5]

section
variable {W : World} {q : StP} {S S1 : St} {D : Dk}

theorem store_writeP_put (h : StAt W q S D) (hoff : D.off = false) (hver : ∀ k, D.vers k = none) (lo po : Int) (v : Value) (l : List UInt8) (hv : Bs W v l) (hvo : ∀ g, v.ownBlock = some g → ¬ q.all g) (hl : l.length ≤ 65536)
    (l0 : 0 ≤ lo) (l1 : lo < 281474976710656) (p0 : 0 ≤ po) (p1 : po < 281474976710656) :
    Calls Try.prog 44 #[.pointer (some ⟨q.s, 0, none⟩), .agg #[.int .i64 1, .int .i64 lo, .int .i64 po, v]] W fun e w' => e = .returned (.int .i64 (writeP S (applyPut S lo po l) D 1 lo po l).1) ∧ (∃ q', StAt w' q' (writeP S (applyPut S lo po l) D 1 lo po l).2.1 (writeP S (applyPut S lo po l) D 1 lo po l).2.2 ∧ Went q q' W.heap.size) ∧ Ext q.own W w' := by
  by_cases hfit : S.fin + chunks (entryB 1 lo po l) ≤ D.texts.length
  · refine (store_write_pow (S1 := applyPut S lo po l) h hoff (writeP S (applyPut S lo po l) D 1 lo po l) hver 1 lo po v l hv hvo hl (by omega) (by omega) l0 l1 p0 p1 hfit (writeP_ok hfit) (writeP_no hfit) ?_).mono ?_
    · intro D' W1 q1 hS1 _ hlen v1 hv1
      refine store_do_put hS1 lo po v1 l hv1 _ (chunks_entry 1 lo po l) (by rw [hlen]; exact hfit) rfl rfl ?_
      intro W2 hS2 hv2
      refine (store_put hS2 1 lo po v1 l hv2 hl p0 p1).mono ?_
      rintro e w' ⟨⟨v9, rfl⟩, ⟨q', h1, h2, h3, h4, h5, h6, _⟩, hx⟩
      exact ⟨⟨v9, rfl⟩, ⟨q', h1, h2, h3, h4, h5, h6⟩, hx⟩
    · rintro e w' ⟨rfl, ⟨q', h1, h2, h3, h4, h5, h6⟩, hx⟩
      exact ⟨rfl, ⟨q', h1, h2, h3, h4, h5, h6⟩, hx⟩
  · rw [show writeP S (applyPut S lo po l) D 1 lo po l = (7, S, D) from if_neg hfit]
    refine (store_write_full h 1 lo po v l hv hl (by omega) (by omega) l0 l1 p0 p1 hfit).mono ?_
    rintro e w' ⟨rfl, hb⟩
    exact ⟨rfl, ⟨q, h.keep hb, Went.refl _ _⟩, Ext.ofBelow hb⟩

theorem store_writeP_seal (h : StAt W q S D) (hoff : D.off = false) (hver : ∀ k, D.vers k = none) (lo : Int) (l0 : 0 ≤ lo) (l1 : lo < 281474976710656) :
    Calls Try.prog 44 #[.pointer (some ⟨q.s, 0, none⟩), .agg #[.int .i64 2, .int .i64 lo, .int .i64 0, .slice none 0 0]] W fun e w' => e = .returned (.int .i64 (writeP S (applySeal S lo) D 2 lo 0 []).1) ∧ (∃ q', StAt w' q' (writeP S (applySeal S lo) D 2 lo 0 []).2.1 (writeP S (applySeal S lo) D 2 lo 0 []).2.2 ∧ Went q q' W.heap.size) ∧ Ext q.own W w' := by
  by_cases hfit : S.fin + chunks (entryB 2 lo 0 []) ≤ D.texts.length
  · refine (store_write_pow (S1 := applySeal S lo) h hoff (writeP S (applySeal S lo) D 2 lo 0 []) hver 2 lo 0 _ [] (Bs.nil W) (fun g hg => by simp [Value.ownBlock] at hg) (by simp) (by omega) (by omega) l0 l1 (by omega) (by omega) hfit (writeP_ok hfit) (writeP_no hfit) ?_).mono ?_
    · intro D' W1 q1 hS1 _ hlen v1 hv1
      refine store_do_seal hS1 lo 0 v1 [] hv1 _ (chunks_entry 2 lo 0 []) (by rw [hlen]; exact hfit) rfl rfl ?_
      intro W2 hS2 hv2
      refine (store_seal hS2 2 lo 0 v1 [] hv2).mono ?_
      rintro e w' ⟨⟨v9, rfl⟩, h1, hx⟩
      exact ⟨⟨v9, rfl⟩, ⟨q1, h1, Moves.refl _ _⟩, hx.mono (fun b _ hb => .inr hb)⟩
    · rintro e w' ⟨rfl, ⟨q', h1, h2, h3, h4, h5, h6⟩, hx⟩
      exact ⟨rfl, ⟨q', h1, h2, h3, h4, h5, h6⟩, hx⟩
  · rw [show writeP S (applySeal S lo) D 2 lo 0 [] = (7, S, D) from if_neg hfit]
    refine (store_write_full h 2 lo 0 _ [] (Bs.nil W) (by simp) (by omega) (by omega) l0 l1 (by omega) (by omega) hfit).mono ?_
    rintro e w' ⟨rfl, hb⟩
    exact ⟨rfl, ⟨q, h.keep hb, Went.refl _ _⟩, Ext.ofBelow hb⟩

theorem store_writeP_trim (h : StAt W q S D) (hoff : D.off = false) (hver : ∀ k, D.vers k = none) (lo po : Int) (l0 : 0 ≤ lo) (l1 : lo < 281474976710656) (p0 : 0 ≤ po) (p1 : po < 281474976710656) :
    Calls Try.prog 44 #[.pointer (some ⟨q.s, 0, none⟩), .agg #[.int .i64 3, .int .i64 lo, .int .i64 po, .slice none 0 0]] W fun e w' => e = .returned (.int .i64 (writeP S (applyTrim S lo po) D 3 lo po []).1) ∧ (∃ q', StAt w' q' (writeP S (applyTrim S lo po) D 3 lo po []).2.1 (writeP S (applyTrim S lo po) D 3 lo po []).2.2 ∧ Went q q' W.heap.size) ∧ Ext q.own W w' := by
  by_cases hfit : S.fin + chunks (entryB 3 lo po []) ≤ D.texts.length
  · refine (store_write_pow (S1 := applyTrim S lo po) h hoff (writeP S (applyTrim S lo po) D 3 lo po []) hver 3 lo po _ [] (Bs.nil W) (fun g hg => by simp [Value.ownBlock] at hg) (by simp) (by omega) (by omega) l0 l1 p0 p1 hfit (writeP_ok hfit) (writeP_no hfit) ?_).mono ?_
    · intro D' W1 q1 hS1 _ hlen v1 hv1
      refine store_do_trim hS1 lo po v1 [] hv1 _ (chunks_entry 3 lo po []) (by rw [hlen]; exact hfit) rfl rfl ?_
      intro W2 hS2 hv2
      refine (store_trim hS2 3 lo po v1 [] hv2 p0 (by omega)).mono ?_
      rintro e w' ⟨⟨v9, rfl⟩, h1, hx⟩
      exact ⟨⟨v9, rfl⟩, ⟨q1, h1, Moves.refl _ _⟩, hx.mono (fun b _ hb => .inr hb)⟩
    · rintro e w' ⟨rfl, ⟨q', h1, h2, h3, h4, h5, h6⟩, hx⟩
      exact ⟨rfl, ⟨q', h1, h2, h3, h4, h5, h6⟩, hx⟩
  · rw [show writeP S (applyTrim S lo po) D 3 lo po [] = (7, S, D) from if_neg hfit]
    refine (store_write_full h 3 lo po _ [] (Bs.nil W) (by simp) (by omega) (by omega) l0 l1 p0 p1 hfit).mono ?_
    rintro e w' ⟨rfl, hb⟩
    exact ⟨rfl, ⟨q, h.keep hb, Went.refl _ _⟩, Ext.ofBelow hb⟩

set_option maxRecDepth 100000 in
set_option maxHeartbeats 1600000 in
theorem store_PutP (h : StAt W q S D) (hq : Quiet D) (lo po : Int) (v : Value) (l : List UInt8) (repair : Bool) (hv : Bs W v l) (hvo : ∀ g, v.ownBlock = some g → ¬ q.all g) (hl : l.length ≤ 65536)
    (l0 : 0 ≤ lo) (l1 : lo < 281474976710656) (p0 : 0 ≤ po) (p1 : po ≤ 4095) :
    Calls Try.prog 21 #[.pointer (some ⟨q.s, 0, none⟩), .int .i64 lo, .int .i64 po, v, .bool repair] W fun e w' => e = .returned (.int .i64 (putP S D lo po l repair).1) ∧ (∃ q', StAt w' q' (putP S D lo po l repair).2.1 (putP S D lo po l repair).2.2 ∧ Went q q' W.heap.size) ∧ Ext q.own W w' := by
  obtain ⟨av, cv, rfl⟩ := hv.form
  have hmay := store_may h lo po 4095
  rw [if_pos ⟨l0, l1, p0, p1⟩] at hmay
  go_enter Try.func21, Try.ntmps21
  go_wp2_with fail
  refine hmay.mono ?_
  rintro e W1 ⟨rfl, b1⟩
  have h1 := h.keep b1
  have hd1 : decide ((l.length : Int) > 65536) = false := decide_eq_false (by omega)
  clear hmay
  go_wp2_with fail
  refine (store_down h1).mono ?_
  rintro e W2 ⟨rfl, b2⟩
  cases hdn : (S.fallen || D.off) with
  | true =>
    have hF : putP S D lo po l repair = (8, S, D) := by unfold putP; rw [if_pos hdn]
    have HX := hid (And.intro (h1.keep b2) (b1.trans (b2.mono b1.size)))
    clear h1 b1 b2
    go_wp2_with fail
    go_ret
    rw [hF]
    exact ⟨rfl, ⟨q, HX.out.1, Went.refl _ _⟩, Ext.ofBelow HX.out.2⟩
  | false =>
  have hoff : D.off = false := (Bool.or_eq_false_iff.1 hdn).2
  have HDN := hid (show ¬ (S.fallen || D.off) = true by rw [hdn]; decide)
  have h2 := h1.keep b2
  have hb2 := b1.trans (b2.mono b1.size)
  have hv2 := hv.keep hb2
  have c1 := h2.cell.cell (o := 1) rfl
  have c2 := h2.cell.cell (o := 2) rfl
  have hlk := store_lookup h2 lo
  clear h1 b1 b2
  obtain ⟨tl, tr, sl, hget, k1, k2, k3, k4⟩ := S.get_form h lo
  rw [hget] at hlk
  simp only [stV] at hlk
  have Hget := hid hget
  clear hget
  have b3 : Below W2.heap.size W2 (W2.alloc (.cells #[.int .i64 tl, .int .i64 tr, .bool sl] 93)) := (Below.refl _ W2).alloc (Nat.le_refl _) _
  have h3 := h2.keep b3
  have hv3 := hv2.keep b3
  have bX := Blk.new W2 #[.int .i64 tl, .int .i64 tr, .bool sl] 93
  have x1 := bX.cell (o := 1) rfl
  have x2 := bX.cell (o := 2) rfl
  have c13 := h3.cell.cell (o := 1) rfl
  obtain ⟨ov, hls, hbo, hou⟩ := store_slot_get h3 (lo, po)
  simp only [encS] at hls
  have hb3 := hb2.trans (b3.mono hb2.size)
  have Hb := hid (And.intro h3 (And.intro hv3 (And.intro hbo hb3)))
  clear h3 hv3 hbo hb3 h2 hv2 hb2 b3 bX
  cases hsl : S.slots (lo, po) with
  | none =>
    rw [hsl] at hls
    simp only [Option.isSome_none] at hls
    by_cases hpt : po < tr
    · have hd2 : decide (po < tr) = true := decide_eq_true hpt
      go_wp2_with fail
      have hF : putP S D lo po l repair = (32, S, D) := by unfold putP; rw [if_neg HDN.out, Hget.out, if_pos hpt]
      have HF := hid hF
      clear hF
      go_ret
      rw [HF.out]
      exact ⟨rfl, ⟨q, Hb.out.1, Went.refl _ _⟩, Ext.ofBelow Hb.out.2.2.2⟩
    · have hd2 : decide (po < tr) = false := decide_eq_false hpt
      by_cases hse : (sl && !repair) = true
      · have hF : putP S D lo po l repair = (30, S, D) := by
          unfold putP
          rw [if_neg HDN.out, Hget.out, if_neg hpt, hsl]
          simp only [hse, if_true]
        have HF := hid hF
        clear hF
        obtain ⟨rfl, rfl⟩ : sl = true ∧ repair = false := by simpa using hse
        go_wp2_with fail
        go_ret
        rw [HF.out]
        exact ⟨rfl, ⟨q, Hb.out.1, Went.refl _ _⟩, Ext.ofBelow Hb.out.2.2.2⟩
      · have hF : putP S D lo po l repair = writeP S (applyPut S lo po l) D 1 lo po l := by
          unfold putP
          rw [if_neg HDN.out, Hget.out, if_neg hpt, hsl]
          have hse' : (sl && !repair) = false := by simpa using hse
          simp only [hse', Bool.false_eq_true, if_false]
        have HF := hid hF
        clear hF
        have hwr := store_writeP_put Hb.out.1 hoff (hq hoff) lo po _ l Hb.out.2.1 hvo hl l0 l1 p0 (by omega)
        have Hwr := hid hwr
        clear hwr
        have hse2 : sl = false ∨ repair = true := by
          cases sl <;> cases repair <;> simp at hse ⊢
        have fin : ∀ e w', (e = Ending.returned (.int .i64 (writeP S (applyPut S lo po l) D 1 lo po l).1) ∧ (∃ q', StAt w' q' (writeP S (applyPut S lo po l) D 1 lo po l).2.1 (writeP S (applyPut S lo po l) D 1 lo po l).2.2 ∧ Went q q' (W2.alloc (.cells #[.int .i64 tl, .int .i64 tr, .bool sl] 93)).heap.size) ∧ Ext q.own (W2.alloc (.cells #[.int .i64 tl, .int .i64 tr, .bool sl] 93)) w') →
            e = Ending.returned (.int .i64 (putP S D lo po l repair).1) ∧ (∃ q', StAt w' q' (putP S D lo po l repair).2.1 (putP S D lo po l repair).2.2 ∧ Went q q' W.heap.size) ∧ Ext q.own W w' := by
          rintro e w' ⟨rfl, ⟨q', a1, a2⟩, a3⟩
          rw [HF.out]
          exact ⟨rfl, ⟨q', a1, a2.le Hb.out.2.2.2.size⟩, (Ext.ofBelow Hb.out.2.2.2 : Ext q.own W _).trans' a3⟩
        have Fin := hid fin
        clear fin
        rcases hse2 with rfl | rfl
        · go_wp2_with fail
          refine Hwr.out.mono ?_
          rintro e w' hpost
          obtain ⟨rfl, r1⟩ := hpost
          have hfin := Fin.out _ w' ⟨rfl, r1⟩
          go_wp2_with fail
          go_ret
          exact hfin
        · cases sl
          · go_wp2_with fail
            refine Hwr.out.mono ?_
            rintro e w' hpost
            obtain ⟨rfl, r1⟩ := hpost
            have hfin := Fin.out _ w' ⟨rfl, r1⟩
            go_wp2_with fail
            go_ret
            exact hfin
          · go_wp2_with fail
            refine Hwr.out.mono ?_
            rintro e w' hpost
            obtain ⟨rfl, r1⟩ := hpost
            have hfin := Fin.out _ w' ⟨rfl, r1⟩
            go_wp2_with fail
            go_ret
            exact hfin
  | some old =>
    rw [hsl] at hls
    simp only [Option.isSome_some] at hls
    by_cases hpt : po < tr
    · have hd2 : decide (po < tr) = true := decide_eq_true hpt
      have hF : putP S D lo po l repair = (32, S, D) := by unfold putP; rw [if_neg HDN.out, Hget.out, if_pos hpt]
      have HF := hid hF
      clear hF
      go_wp2_with fail
      go_ret
      rw [HF.out]
      exact ⟨rfl, ⟨q, Hb.out.1, Went.refl _ _⟩, Ext.ofBelow Hb.out.2.2.2⟩
    · have hd2 : decide (po < tr) = false := decide_eq_false hpt
      have heq := bytes_Equal ov _ old l _ (by have := Hb.out.2.2.1; rw [hsl] at this; exact this) Hb.out.2.1
      have Heq := hid heq
      clear heq
      by_cases hol : old = l
      · have hF : putP S D lo po l repair = (0, S, D) := by
          unfold putP
          rw [if_neg HDN.out, Hget.out, if_neg hpt, hsl]
          simp only [hol, if_true]
        have HF := hid hF
        clear hF
        have hbe : (old == l) = true := by rw [hol]; exact beq_self_eq_true l
        go_wp2_with fail
        refine Heq.out.mono ?_
        rintro e W4 ⟨rfl, rfl⟩
        rw [hbe]
        go_wp2_with fail
        go_ret
        rw [HF.out]
        exact ⟨rfl, ⟨q, Hb.out.1, Went.refl _ _⟩, Ext.ofBelow Hb.out.2.2.2⟩
      · have hF : putP S D lo po l repair = (31, S, D) := by
          unfold putP
          rw [if_neg HDN.out, Hget.out, if_neg hpt, hsl]
          simp only [hol, if_false]
        have HF := hid hF
        clear hF
        have hbe : (old == l) = false := beq_eq_false_iff_ne.2 hol
        go_wp2_with fail
        refine Heq.out.mono ?_
        rintro e W4 ⟨rfl, rfl⟩
        rw [hbe]
        go_wp2_with fail
        go_ret
        rw [HF.out]
        exact ⟨rfl, ⟨q, Hb.out.1, Went.refl _ _⟩, Ext.ofBelow Hb.out.2.2.2⟩

set_option maxRecDepth 100000 in
set_option maxHeartbeats 1600000 in
theorem store_SealP (h : StAt W q S D) (hq : Quiet D) (lo : Int) (l0 : 0 ≤ lo) (l1 : lo < 281474976710656) :
    Calls Try.prog 22 #[.pointer (some ⟨q.s, 0, none⟩), .int .i64 lo] W fun e w' => e = .returned (.int .i64 (sealP S D lo).1) ∧ (∃ q', StAt w' q' (sealP S D lo).2.1 (sealP S D lo).2.2 ∧ Went q q' W.heap.size) ∧ Ext q.own W w' := by
  have hmay := store_may h lo 0 0
  rw [if_pos ⟨l0, l1, by omega, by omega⟩] at hmay
  go_enter Try.func22, Try.ntmps22
  go_wp2_with fail
  refine hmay.mono ?_
  rintro e W1 ⟨rfl, b1⟩
  have h1 := h.keep b1
  clear hmay
  go_wp2_with fail
  refine (store_down h1).mono ?_
  rintro e W2 ⟨rfl, b2⟩
  cases hdn : (S.fallen || D.off) with
  | true =>
    have hF : sealP S D lo = (8, S, D) := by unfold sealP; rw [if_pos hdn]
    have HX := hid (And.intro (h1.keep b2) (b1.trans (b2.mono b1.size)))
    clear h1 b1 b2
    go_wp2_with fail
    go_ret
    rw [hF]
    exact ⟨rfl, ⟨q, HX.out.1, Went.refl _ _⟩, Ext.ofBelow HX.out.2⟩
  | false =>
  have hoff : D.off = false := (Bool.or_eq_false_iff.1 hdn).2
  have HDN := hid (show ¬ (S.fallen || D.off) = true by rw [hdn]; decide)
  have h2 := h1.keep b2
  have hb2 := b1.trans (b2.mono b1.size)
  have c2 := h2.cell.cell (o := 2) rfl
  have hlk := store_lookup h2 lo
  clear h1 b1 b2
  obtain ⟨tl, tr, sl, hget, k1, k2, k3, k4⟩ := S.get_form h lo
  rw [hget] at hlk
  simp only [stV] at hlk
  have Hget := hid hget
  clear hget
  have hfld : (Instr.field 93 (.agg #[.int .i64 tl, .int .i64 tr, .bool sl]) 2).run Try.prog W2 = .ok (.bool sl) W2 := by kernel_rfl
  have hwr := hid (store_writeP_seal h2 hoff (hq hoff) lo l0 l1)
  have Hb := hid (And.intro h2 hb2)
  clear h2 hb2
  cases sl
  · have HF := hid (show sealP S D lo = writeP S (applySeal S lo) D 2 lo 0 [] by unfold sealP; rw [if_neg HDN.out, Hget.out]; rfl)
    go_wp2_with fail
    refine hwr.out.mono ?_
    rintro e w' hpost
    obtain ⟨rfl, ⟨q', a1, a2⟩, a3⟩ := hpost
    go_wp2_with fail
    go_ret
    rw [HF.out]
    exact ⟨rfl, ⟨q', a1, a2.le Hb.out.2.size⟩, (Ext.ofBelow Hb.out.2 : Ext q.own W _).trans' a3⟩
  · have HF := hid (show sealP S D lo = (0, S, D) by unfold sealP; rw [if_neg HDN.out, Hget.out]; rfl)
    go_wp2_with fail
    go_ret
    rw [HF.out]
    exact ⟨rfl, ⟨q, Hb.out.1, Went.refl _ _⟩, Ext.ofBelow Hb.out.2⟩

set_option maxRecDepth 100000 in
set_option maxHeartbeats 1600000 in
theorem store_TrimP (h : StAt W q S D) (hq : Quiet D) (lo po : Int) (l0 : 0 ≤ lo) (l1 : lo < 281474976710656) (p0 : 0 ≤ po) (p1 : po ≤ 4096) :
    Calls Try.prog 29 #[.pointer (some ⟨q.s, 0, none⟩), .int .i64 lo, .int .i64 po] W fun e w' => e = .returned (.int .i64 (trimP S D lo po).1) ∧ (∃ q', StAt w' q' (trimP S D lo po).2.1 (trimP S D lo po).2.2 ∧ Went q q' W.heap.size) ∧ Ext q.own W w' := by
  have hmay := store_may h lo po 4096
  rw [if_pos ⟨l0, l1, p0, p1⟩] at hmay
  go_enter Try.func29, Try.ntmps29
  go_wp2_with fail
  refine hmay.mono ?_
  rintro e W1 ⟨rfl, b1⟩
  have h1 := h.keep b1
  clear hmay
  go_wp2_with fail
  refine (store_down h1).mono ?_
  rintro e W2 ⟨rfl, b2⟩
  cases hdn : (S.fallen || D.off) with
  | true =>
    have hF : trimP S D lo po = (8, S, D) := by unfold trimP; rw [if_pos hdn]
    have HX := hid (And.intro (h1.keep b2) (b1.trans (b2.mono b1.size)))
    clear h1 b1 b2
    go_wp2_with fail
    go_ret
    rw [hF]
    exact ⟨rfl, ⟨q, HX.out.1, Went.refl _ _⟩, Ext.ofBelow HX.out.2⟩
  | false =>
  have hoff : D.off = false := (Bool.or_eq_false_iff.1 hdn).2
  have HDN := hid (show ¬ (S.fallen || D.off) = true by rw [hdn]; decide)
  have h2 := h1.keep b2
  have hb2 := b1.trans (b2.mono b1.size)
  have c2 := h2.cell.cell (o := 2) rfl
  have hlk := store_lookup h2 lo
  clear h1 b1 b2
  obtain ⟨tl, tr, sl, hget, k1, k2, k3, k4⟩ := S.get_form h lo
  rw [hget] at hlk
  simp only [stV] at hlk
  have Hget := hid hget
  clear hget
  have hfld : (Instr.field 93 (.agg #[.int .i64 tl, .int .i64 tr, .bool sl]) 1).run Try.prog W2 = .ok (.int .i64 tr) W2 := by kernel_rfl
  have hwr := hid (store_writeP_trim h2 hoff (hq hoff) lo po l0 l1 p0 (by omega))
  have Hb := hid (And.intro h2 hb2)
  clear h2 hb2
  by_cases hp : po ≤ tr
  · have HF := hid (show trimP S D lo po = (0, S, D) by unfold trimP; rw [if_neg HDN.out, Hget.out, if_pos hp])
    go_wp2_with fail
    go_ret
    rw [HF.out]
    exact ⟨rfl, ⟨q, Hb.out.1, Went.refl _ _⟩, Ext.ofBelow Hb.out.2⟩
  · have HF := hid (show trimP S D lo po = writeP S (applyTrim S lo po) D 3 lo po [] by unfold trimP; rw [if_neg HDN.out, Hget.out, if_neg hp])
    have hp2 : tr < po := by omega
    go_wp2_with fail
    refine hwr.out.mono ?_
    rintro e w' hpost
    obtain ⟨rfl, ⟨q', a1, a2⟩, a3⟩ := hpost
    go_wp2_with fail
    go_ret
    rw [HF.out]
    exact ⟨rfl, ⟨q', a1, a2.le Hb.out.2.size⟩, (Ext.ofBelow Hb.out.2 : Ext q.own W _).trans' a3⟩

end

end Go.Proofs.Ytpkaepmmkojdaaa
