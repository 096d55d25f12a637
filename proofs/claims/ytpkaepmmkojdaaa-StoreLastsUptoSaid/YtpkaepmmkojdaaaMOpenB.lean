import Derived.Test.YtpkaepmmkojdaaaMStore
/-! Package store, on: Open of a disk that nobody wrote. -/
namespace Go.Proofs.Ytpkaepmmkojdaaa
open Go.RowKit

theorem size_entry : (Try.prog.info? 62).map (·.size) = some 4 := by kernel_rfl

section
variable {W : World} {q : StP} {S : St} {D : Dk}

set_option maxRecDepth 100000 in
set_option maxHeartbeats 1600000 in
theorem store_part_no (h : StAt W q S D) (hoff : D.off = false) (kk : Nat) (t : List UInt8) (hv : D.vers (kk : Int) = none) (hbad : D.bad (kk : Int) = false) (ht : D.texts[kk]? = some t) (u : UInt8) (h0 : t[0]? = some u) (hu : u ≠ 165) :
    Calls Try.prog 33 #[.pointer (some ⟨q.s, 0, none⟩), .int .i64 (kk : Int)] W fun e w' => e = .returned (.tuple #[.int .i64 0, .int .i64 0, .slice none 0 0, .bool false]) ∧ Below W.heap.size W w' := by
  have c0 := h.cell.cell (o := 0) rfl
  go_enter Try.func33, Try.ntmps33
  go_wp2_with fail
  refine (disk_Read_text h.disk hoff kk t hv hbad ht).mono ?_
  rintro e W1 ⟨g, rfl, hg, hb, hbl⟩
  have hc : W1.cell? ⟨g, 0, none⟩ = some (bv u) := by
    rcases hb.cases with ⟨e, _⟩ | ⟨g', o', c', e, _, _, hc⟩ | ⟨e, _⟩
    · cases e
    rotate_left
    · rw [e] at h0; simp at h0
    · injection e with e1 e2 e3
      injection e1 with e1
      injection e1 with e1 e4
      subst e1 e4
      exact hc 0 u h0
  clear hb
  have hne : ¬ ((u.toNat : Int) = 165) := fun hh => hu (UInt8.toNat_inj.1 (by show u.toNat = 165; omega))
  have hd : decide ((u.toNat : Int) = 165) = false := decide_eq_false hne
  have hd2 : ((u.toNat : Int) == 165) = false := beq_eq_false_iff_ne.2 hne
  have hd3 : decide ((u.toNat : Int) ≠ 165) = true := decide_eq_true hne
  have hw0 : IntKind.i64.wrap 0 = 0 := by rw [IntKind.wrap_i64]; rfl
  go_wp2_with fail
  go_quiet (fail)
  go_wp2_with fail
  refine bodyPost_ret (v := .tuple #[.int .i64 0, .int .i64 0, .slice none 0 0, .bool false]) (by simp [results, Try.results33, go_sem]) rfl ?_
  exact ⟨rfl, below_drewN (B := W.heap.size) hbl _⟩

set_option maxRecDepth 100000 in
set_option maxHeartbeats 1600000 in
theorem store_next_no (h : StAt W q S D) (hoff : D.off = false) (t : List UInt8) (hv : D.vers (S.fin : Int) = none) (hbad : D.bad (S.fin : Int) = false) (ht : D.texts[S.fin]? = some t) (u : UInt8) (h0 : t[0]? = some u) (hu : u ≠ 165) :
    Calls Try.prog 15 #[.pointer (some ⟨q.s, 0, none⟩)] W fun e w' => e = .returned (.tuple #[.agg #[.int .i64 0, .int .i64 0, .int .i64 0, .slice none 0 0], .int .i64 0, .bool false]) ∧ Below W.heap.size W w' := by
  obtain ⟨W1, hW1⟩ : ∃ W1, W.alloc (.cells #[.int .i64 0, .int .i64 0, .int .i64 0, .slice none 0 0] 62) = W1 := ⟨_, rfl⟩
  have b1 : Below W.heap.size W W1 := by rw [← hW1]; exact (Below.refl _ W).alloc (Nat.le_refl _) _
  have q0 : Blk W1 W.heap.size #[.int .i64 0, .int .i64 0, .int .i64 0, .slice none 0 0] 62 := by rw [← hW1]; exact Blk.new W _ _
  have h1 := h.keep b1
  have c3 := h1.cell.cell (o := 3) rfl
  go_enter Try.func15, Try.ntmps15
  go_wp2_with fail
  refine (store_part_no h1 hoff S.fin t hv hbad ht u h0 hu).mono ?_
  rintro e W2 ⟨rfl, b2⟩
  have q2 := q0.keep b2
  have b2' := b1.trans (b2.mono b1.size)
  clear b1 b2 q0 h1 c3
  go_wp2_with fail
  go_quiet (fail)
  have k0 := q2.cell (o := 0) rfl
  have k1 := q2.cell (o := 1) rfl
  have k2 := q2.cell (o := 2) rfl
  have k3 := q2.cell (o := 3) rfl
  have l0 := q2.free 0
  have l1 := q2.free 1
  have l2 := q2.free 2
  have l3 := q2.free 3
  have bN : Below W.heap.size W (W2.drewN nq) := below_drewN (B := W.heap.size) b2' nq
  have bS : Below W.heap.size W (((((W2.drewN nq).setCell ⟨W.heap.size, 0, none⟩ (.int .i64 0)).setCell ⟨W.heap.size, 1, none⟩ (.int .i64 0)).setCell ⟨W.heap.size, 2, none⟩ (.int .i64 0)).setCell ⟨W.heap.size, 3, none⟩ (.slice none 0 0)) :=
    (((bN.setCell (p := ⟨W.heap.size, 0, none⟩) (by simp) _).setCell (p := ⟨W.heap.size, 1, none⟩) (by simp) _).setCell (p := ⟨W.heap.size, 2, none⟩) (by simp) _).setCell (p := ⟨W.heap.size, 3, none⟩) (by simp) _
  have qF : Blk (((((W2.drewN nq).setCell ⟨W.heap.size, 0, none⟩ (.int .i64 0)).setCell ⟨W.heap.size, 1, none⟩ (.int .i64 0)).setCell ⟨W.heap.size, 2, none⟩ (.int .i64 0)).setCell ⟨W.heap.size, 3, none⟩ (.slice none 0 0)) W.heap.size #[.int .i64 0, .int .i64 0, .int .i64 0, .slice none 0 0] 62 := by
    have h2 : Blk (W2.drewN nq) W.heap.size #[.int .i64 0, .int .i64 0, .int .i64 0, .slice none 0 0] 62 := q2
    have := (((h2.set (o := 0) (.int .i64 0)).set (o := 1) (.int .i64 0)).set (o := 2) (.int .i64 0)).set (o := 3) (.slice none 0 0)
    simpa using this
  have HS := hid bS
  have HF := hid qF
  clear bS qF bN
  go_wp2_with fail
  have bS := HS.out
  have qF := HF.out
  clear HS HF
  generalize ((((W2.drewN nq).setCell ⟨W.heap.size, 0, none⟩ (.int .i64 0)).setCell ⟨W.heap.size, 1, none⟩ (.int .i64 0)).setCell ⟨W.heap.size, 2, none⟩ (.int .i64 0)).setCell ⟨W.heap.size, 3, none⟩ (.slice none 0 0) = WS at *
  have hld := run_loadVar_row (P := Try.prog) WS W.heap.size 62 62 _ (0, 0) _ qF Try.underlying62 rfl size_entry
  refine bodyPost_ret (v := .tuple #[.agg #[.int .i64 0, .int .i64 0, .int .i64 0, .slice none 0 0], .int .i64 0, .bool false]) ?_ rfl ?_
  · simp [results, Try.results15, hld, asAddr]
  · exact ⟨rfl, bS⟩
end

end Go.Proofs.Ytpkaepmmkojdaaa

/-! Package store, on: Open of a disk that nobody wrote. -/
namespace Go.Proofs.Ytpkaepmmkojdaaa
open Go.RowKit

def St.fresh : St := { slots := fun _ => none, states := fun _ => none, fin := 0, num := 0, fallen := false }

theorem StAt.begin {W : World} {p : DkP} {D : Dk} (h : DkAt W p D) :
    StAt (((W.alloc (.map #[] 0)).alloc (.map #[] 0)).alloc (.cells #[.pointer (some ⟨p.d, 0, none⟩), .map (some W.heap.size), .map (some (W.heap.size + 1)), .int .i64 0, .int .i64 0, .bool false] 60)) ⟨W.heap.size + 2, W.heap.size, W.heap.size + 1, p, fun _ => False⟩ St.fresh D where
  cell := Blk.new' _ _ (by simp) _ _
  disk := h.keep ((((Below.refl _ W).alloc (Nat.le_refl _) _).alloc (by simp) _).alloc (by simp; omega) _)
  slots := ⟨[], 0, ((MapAt.new W encS).keep (((Below.refl _ _).alloc (Nat.le_refl _) _).alloc (by simp) _)), fun _ => rfl, fun e he => by simp at he⟩
  states := ⟨[], 0, by have := ((MapAt.new (W.alloc (.map #[] 0)) encI).keep ((Below.refl _ _).alloc (Nat.le_refl _) (.cells #[.pointer (some ⟨p.d, 0, none⟩), .map (some W.heap.size), .map (some (W.heap.size + 1)), .int .i64 0, .int .i64 0, .bool false] 60))); rw [World.size_alloc] at this; exact this, fun _ => rfl, fun e he => by simp at he⟩
  ne := ⟨by simp, by simp, by simp, fun hc => absurd (h.lt hc) (by simp), fun hc => absurd (h.lt hc) (by simp), fun hc => absurd (h.lt hc) (by simp)⟩
  data := fun b hb => hb.elim
  lt := fun b hb => hb.elim
  bound := ⟨Nat.zero_le _, Nat.le_refl _⟩

theorem fresh_texts (n k : Nat) (h : k < n) : (Dk.fresh n).texts[k]? = some (List.replicate 256 0) := by
  show (List.replicate n (List.replicate 256 0))[k]? = _
  rw [List.getElem?_replicate, if_pos h]
theorem fresh_len (n : Nat) : (Dk.fresh n).texts.length = n := List.length_replicate

set_option maxRecDepth 100000 in
set_option maxHeartbeats 1600000 in
theorem store_Open_fresh {W : World} {p : DkP} (n : Nat) (h : DkAt W p (Dk.fresh n)) :
    Calls Try.prog 5 #[.pointer (some ⟨p.d, 0, none⟩)] W fun e w' => ∃ q, e = .returned (.tuple #[.pointer (some ⟨q.s, 0, none⟩), .int .i64 0]) ∧ StAt w' q St.fresh (Dk.fresh n) ∧ Below W.heap.size W w' ∧ q.p = p ∧ W.heap.size ≤ q.s ∧ W.heap.size ≤ q.ms ∧ W.heap.size ≤ q.mt ∧ q.U = fun _ => False := by
  have hn := h.pos
  have hn2 := h.most
  rw [fresh_len] at hn hn2
  have hd0 : ((n : Int) == 0) = false := beq_eq_false_iff_ne.2 (by omega)
  have hd1 : decide ((n : Int) = 0) = false := decide_eq_false (by omega)
  have hS := StAt.begin h
  have hmm := @run_makeMap Try.prog
  have hbl := disk_Blocks h
  rw [fresh_len] at hbl
  go_enter Try.func5, Try.ntmps5
  go_wp2_with fail
  refine hbl.mono ?_
  rintro e W1 ⟨rfl, rfl⟩
  go_wp2_with fail
  refine (disk_Down h).mono ?_
  rintro e W2 ⟨rfl, rfl⟩
  rw [show (Dk.fresh n).off = false from rfl]
  have bS : Below W2.heap.size W2 (((W2.alloc (.map #[] 0)).alloc (.map #[] 0)).alloc (.cells #[.pointer (some ⟨p.d, 0, none⟩), .map (some W2.heap.size), .map (some (W2.heap.size + 1)), .int .i64 0, .int .i64 0, .bool false] 60)) := (((Below.refl _ W2).alloc (Nat.le_refl _) _).alloc (by simp) _).alloc (by simp; omega) _
  go_wp2_with fail
  obtain ⟨q, hq⟩ : ∃ q : StP, q = ⟨W2.heap.size + 2, W2.heap.size, W2.heap.size + 1, p, fun _ => False⟩ := ⟨_, rfl⟩
  rw [← hq] at hS
  have hqs : W2.heap.size + 1 + 1 = q.s := by rw [hq]
  have hqp : q.p = p := by rw [hq]
  have Hq := hid (show W2.heap.size ≤ q.s ∧ W2.heap.size ≤ q.ms ∧ W2.heap.size ≤ q.mt ∧ q.U = fun _ => False by rw [hq]; exact ⟨by simp, by simp, by simp, rfl⟩)
  rw [hqs]
  generalize ((W2.alloc (.map #[] 0)).alloc (.map #[] 0)).alloc (.cells #[.pointer (some ⟨p.d, 0, none⟩), .map (some W2.heap.size), .map (some (W2.heap.size + 1)), .int .i64 0, .int .i64 0, .bool false] 60) = WS at *
  clear hbl hmm hq hqs
  go_loopw [7] (fun _ wr => wr = WS) (fun _ wr => 0)
  case atStart => rfl
  case round =>
    subst hrel
    have hDk : DkAt wr p (Dk.fresh n) := hqp ▸ hS.disk
    have hblk : ∀ k, Calls Try.prog 13 #[.pointer (some ⟨p.d, 0, none⟩)] (wr.drewN k) fun e w' => e = .returned (.int .i64 (n : Int)) ∧ w' = wr.drewN k := fun k => by
      have := disk_Blocks (hDk.keep (below_of_drewN _ wr k))
      rwa [fresh_len] at this
    have c3 : wr.cell? ⟨q.s, 3, none⟩ = some (.int .i64 0) := hS.cell.cell (o := 3) rfl
    have hlt : decide ((0 : Int) < (n : Int)) = true := decide_eq_true (by omega)
    go_wp2_with fail
    go_quiet ((go_at_call 13; exact Calls.quiet_of_same (hblk _)))
    have hS1 : StAt (wr.drewN nq) q St.fresh (Dk.fresh n) := hS.keep (below_of_drewN _ _ _)
    have bS1 : Below W2.heap.size W2 (wr.drewN nq) := below_drewN (B := W2.heap.size) bS nq
    clear hS hDk hblk c3 bS
    generalize wr.drewN nq = W3 at *
    go_wp2_with fail
    refine (store_next_no hS1 rfl (List.replicate 256 0) rfl rfl (fresh_texts n 0 hn) 0 rfl (by decide)).mono ?_
    rintro e W4 ⟨rfl, b4⟩
    have hS2 := hS1.keep b4
    have bS2 := bS1.trans (b4.mono bS1.size)
    clear hS1 b4 bS1
    obtain ⟨W5, hW5⟩ : ∃ W5, W4.alloc (.cells #[.int .i64 0, .int .i64 0, .int .i64 0, .slice none 0 0] 62) = W5 := ⟨_, rfl⟩
    have b5 : Below W4.heap.size W4 W5 := by rw [← hW5]; exact (Below.refl _ W4).alloc (Nat.le_refl _) _
    have hmk : (Instr.makeSlice 40 (.int .i64 256) (.int .i64 256)).run Try.prog W5 = .ok (.slice (some ⟨W5.heap.size, 0, none⟩) 256 256) (W5.alloc (.cells (madeCells #[.int .u8 0] 256) 5)) := run_make_u8 256 (by decide) W5
    have hbk := bs_made W5 256 (by decide)
    have b6 : Below W5.heap.size W5 (W5.alloc (.cells (madeCells #[.int .u8 0] 256) 5)) := (Below.refl _ W5).alloc (Nat.le_refl _) _
    have hS3 := (hS2.keep b5).keep b6
    have bS3 := (bS2.trans (b5.mono bS2.size)).trans (b6.mono (Nat.le_trans bS2.size b5.size))
    obtain ⟨W6, hW6⟩ : ∃ W6, W5.alloc (.cells (madeCells #[.int .u8 0] 256) 5) = W6 := ⟨_, rfl⟩
    rw [hW6] at hmk hbk hS3 bS3
    have c36 : W6.cell? ⟨q.s, 3, none⟩ = some (.int .i64 0) := hS3.cell.cell (o := 3) rfl
    clear hS2 bS2 b5 b6 hW6
    have hs5 : W5.heap.size = W4.heap.size + 1 := by rw [← hW5]; simp
    rw [← hW5] at hmk
    rw [World.size_alloc] at hmk
    rw [hs5] at hbk
    clear hW5 hs5
    go_wp2_with fail
    clear hmk c36
    generalize hblank : (List.replicate 256 (0 : UInt8)) = blank at *
    have Hb := hid hblank
    clear hblank
    go_loopw [9, 10] (fun sm i wr => ∃ k : Nat, k ≤ n ∧ i = .int .i64 (k : Int) ∧ sm = .bool false ∧ StAt wr q St.fresh (Dk.fresh n) ∧ Below W2.heap.size W2 wr ∧ Bs wr (.slice (some ⟨W4.heap.size + 1, 0, none⟩) 256 256) blank) (fun _ i _ => n - (intOf i).toNat)
    case atStart => exact ⟨0, by omega, rfl, rfl, hS3, bS3, hbk⟩
    case round =>
      obtain ⟨k, hk, rfl, rfl, hSk, bSk, hbkk⟩ := hrel
      have hDk : DkAt wr p (Dk.fresh n) := hqp ▸ hSk.disk
      have hblk := disk_Blocks hDk
      rw [fresh_len] at hblk
      by_cases hkn : k < n
      · have hd : decide ((k : Int) < (n : Int)) = true := decide_eq_true (by omega)
        go_wp2_with fail
        refine hblk.mono ?_
        rintro e W7 ⟨rfl, rfl⟩
        clear hblk
        go_wp2_with fail
        refine (disk_Read_text hDk rfl k blank rfl rfl (by rw [← Hb.out]; exact fresh_texts n k hkn)).mono ?_
        rintro e W8 ⟨g, rfl, hg, hbg, b8⟩
        have hbk8 := hbkk.keep b8
        have hS8 := hSk.keep b8
        have bS8 := bSk.trans (b8.mono bSk.size)
        have heq := bytes_Equal _ _ blank blank W8 hbg hbk8
        rw [beq_self_eq_true] at heq
        have Hbk := hid hbk8
        have Hbg := hid hbg
        clear hbg hbk8 hbkk hSk hDk
        go_wp2_with fail
        refine heq.mono ?_
        rintro e W9 ⟨rfl, rfl⟩
        clear heq
        go_wp2_with fail
        go_roundw
        case rel => exact ⟨k + 1, by omega, by go_num, rfl, hS8, bS8, Hbk.out⟩
        case measure => simp [intOf]; omega
      · obtain rfl : k = n := by omega
        have hd : decide ((k : Int) < (k : Int)) = false := decide_eq_false (by omega)
        go_wp2_with fail
        refine hblk.mono ?_
        rintro e W7 ⟨rfl, rfl⟩
        clear hblk
        go_wp2_with fail
        go_ret2
        exact ⟨q, rfl, hSk, bSk, hqp, Hq.out⟩

end Go.Proofs.Ytpkaepmmkojdaaa
