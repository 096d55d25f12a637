import Derived.Test.YtnbeagcmfcdklaaGreatMFrame
/-! The walks of package wire, on: Unframe. -/
namespace Go.Proofs.YtnbeagcmfcdklaaGreat
open Go.RowKit

/-- What bytes say as a frame: the kind, the body, where it ends. -/
def unframe (l : List UInt8) : Option (Nat × List UInt8 × Nat) :=
  if l.length < 5 then none
  else if 65536 < numOf ((l.drop 1).take 4) ∨ l.length < 9 + numOf ((l.drop 1).take 4) then none
  else if numOf ((l.drop (5 + numOf ((l.drop 1).take 4))).take 4) ≠ crcOf (l.take (5 + numOf ((l.drop 1).take 4))) then none
  else some (numOf (l.take 1), (l.drop 5).take (numOf ((l.drop 1).take 4)), 9 + numOf ((l.drop 1).take 4))

def UnfPost (w : World) (l : List UInt8) (e : Ending) (w' : World) : Prop :=
  match unframe l with
  | none => ∃ c : Int, c ≠ 0 ∧ e = .returned (.tuple #[.int .i64 0, .slice none 0 0, .int .i64 0, .int .i64 c]) ∧ Below w.heap.size w w'
  | some (k, x, to) => ∃ v, e = .returned (.tuple #[.int .i64 (k : Int), v, .int .i64 (to : Int), .int .i64 0]) ∧ Own8 w' w.heap.size 5 v x ∧ Below w.heap.size w w'

theorem bs_block {w : World} {v : Value} {l : List UInt8} (h : Bs w v l) (hne : l ≠ []) : ∀ k, v.ownBlock = some k → k < w.heap.size := by
  obtain ⟨a, c, rfl, hc, hm, ha, hsp, hr⟩ := h
  intro k hk
  cases a with
  | none => simp [Value.ownBlock] at hk
  | some ad =>
    simp [Value.ownBlock] at hk
    subst hk
    obtain ⟨x, y, rfl⟩ := List.exists_cons_of_ne_nil hne
    obtain ⟨_, e, h⟩ := hr 0 x rfl
    cases e
    exact World.block_lt_of_cell? w ⟨ad.block, ad.off + 0, none⟩ h

/-- A reader of bytes, at a place. -/
structure Rdr (g : Nat) (a : Option Addr) (c : Nat) (l : List UInt8) (at_ : Nat) (W : World) : Prop where
  blk : Blk W g #[.slice a l.length c, .int .i64 (at_ : Int)] 168
  bs : Bs W (.slice a l.length c) l
  own : l ≠ [] → ∀ k, (Value.slice a l.length c).ownBlock = some k → k ≠ g
  len : l.length ≤ 1073741824
theorem Rdr.cap {g : Nat} {a : Option Addr} {c : Nat} {l : List UInt8} {at_ : Nat} {W : World} (h : Rdr g a c l at_ W) : l.length ≤ c ∧ c ≤ maxLen := by
  obtain ⟨_, _, e, h1, h2, _⟩ := h.bs
  cases e
  exact ⟨h1, h2⟩
theorem Rdr.keep {g : Nat} {a : Option Addr} {c : Nat} {l : List UInt8} {at_ : Nat} {W W' : World} (h : Rdr g a c l at_ W) (hb : Below W.heap.size W W') : Rdr g a c l at_ W' :=
  ⟨h.blk.keep hb, h.bs.keep hb, h.own, h.len⟩
theorem below_of_drewN (B : Nat) (W : World) (k : Nat) : Below B W (W.drewN k) := below_drewN (Below.refl _ _) k
theorem Rdr.has {g : Nat} {a : Option Addr} {c : Nat} {l : List UInt8} {at_ : Nat} {W : World} (h : Rdr g a c l at_ W) (n : Int) (b : Bool) (hb : b = decide ((at_ : Int) ≤ l.length ∧ n ≤ l.length - at_)) :
    Calls Tryz.prog 96 #[.pointer (some ⟨g, 0, none⟩), .int .i64 n] W fun e W' => e = .returned (.bool b) ∧ Rdr g a c l at_ W' ∧ Below W.heap.size W W' := by
  have hl := h.len
  cases b
  · refine (place_has_false _ _ _ _ _ _ _ (h.blk.cell (o := 0) rfl) (h.blk.cell (o := 1) rfl) (by omega) (by omega) (by have := of_decide_eq_false hb.symm; omega)).mono ?_
    rintro e w' ⟨rfl, k1, rfl⟩
    exact ⟨rfl, h.keep (below_of_drewN _ _ _), below_of_drewN _ _ _⟩
  · have hd := of_decide_eq_true hb.symm
    refine (place_has_true _ _ _ _ _ _ _ (h.blk.cell (o := 0) rfl) (h.blk.cell (o := 1) rfl) (by omega) (by omega) (by omega) (by omega)).mono ?_
    rintro e w' ⟨rfl, k1, rfl⟩
    exact ⟨rfl, h.keep (below_of_drewN _ _ _), below_of_drewN _ _ _⟩
theorem Rdr.moved {g : Nat} {a : Option Addr} {c : Nat} {l : List UInt8} {at_ : Nat} {W : World} (h : Rdr g a c l at_ W) {n : Nat} (hne : l ≠ []) (k : Nat) :
    Rdr g a c l (at_ + n) ((W.setCell ⟨g, 1, none⟩ (.int .i64 ((at_ : Int) + (n : Int)))).drewN k) ∧ Ext (fun b => b = g) W ((W.setCell ⟨g, 1, none⟩ (.int .i64 ((at_ : Int) + (n : Int)))).drewN k) := by
  have he : Ext (fun b => b = g) W ((W.setCell ⟨g, 1, none⟩ (.int .i64 ((at_ : Int) + (n : Int)))).drewN k) := (Ext.setCell (fp := fun b => b = g) (Ext.refl _ _) (.inl rfl) _).drewN k
  exact ⟨⟨h.blk.set (o := 1) _, h.bs.ext he (fun k hk _ e => h.own hne k hk e), h.own, h.len⟩, he⟩
theorem Rdr.number {g : Nat} {a : Option Addr} {c : Nat} {l : List UInt8} {at_ : Nat} {W : World} (h : Rdr g a c l at_ W) (n : Int) (m : Nat) (hn : n = m) (h1 : 1 ≤ m) (h6 : m ≤ 6) (hle : at_ + m ≤ l.length) :
    Calls Tryz.prog 97 #[.pointer (some ⟨g, 0, none⟩), .int .i64 n] W fun e W' => e = .returned (.int .i64 ((numOf ((l.drop at_).take m) : Nat) : Int)) ∧ Rdr g a c l (at_ + m) W' ∧ Ext (fun b => b = g) W W' := by
  subst hn
  have hl := h.len
  have hne : l ≠ [] := by rintro rfl; simp at hle; omega
  refine (reader_number _ _ _ _ (at_ : Int) (m : Int) W (h.blk.cell (o := 0) rfl) (h.blk.cell (o := 1) rfl) (h.blk.free 1) (by omega) (by omega) (by omega) (by omega) (by omega) h.bs (h.own hne)).mono ?_
  rintro e w' ⟨rfl, k1, rfl⟩
  have := h.moved (n := m) hne k1
  rw [Int.toNat_natCast, Int.toNat_natCast]
  exact ⟨rfl, this.1, this.2⟩
theorem Rdr.take {g : Nat} {a : Option Addr} {c : Nat} {l : List UInt8} {at_ : Nat} {W : World} (h : Rdr g a c l at_ W) (n : Int) (m : Nat) (hn : n = m) (hne : l ≠ []) (hle : at_ + m ≤ l.length) :
    Calls Tryz.prog 98 #[.pointer (some ⟨g, 0, none⟩), .int .i64 n] W fun e W' => ∃ a' c', e = .returned (.slice a' m c') ∧ Bs W' (.slice a' m c') ((l.drop at_).take m) ∧ Rdr g a c l (at_ + m) W' ∧ Ext (fun b => b = g) W W' := by
  subst hn
  have hl := h.len
  have hcp := h.cap
  refine (place_take _ _ _ _ (at_ : Int) (m : Int) W (h.blk.cell (o := 0) rfl) (h.blk.cell (o := 1) rfl) (h.blk.free 1) (by omega) (by omega) (by omega) (by omega) (by omega)).mono ?_
  rintro e w' ⟨rfl, k1, rfl⟩
  have := h.moved (n := m) hne k1
  have e1 : ((at_ : Int) + (m : Int)).toNat - (at_ : Int).toNat = m := by omega
  rw [Int.toNat_natCast] at *
  rw [e1]
  have hs := this.1.bs.slice (lo := at_) (hi := at_ + m) (by omega) (by omega)
  rw [show at_ + m - at_ = m from by omega] at hs
  exact ⟨_, _, rfl, hs, this.1, this.2⟩

set_option maxRecDepth 100000 in
set_option maxHeartbeats 1600000 in
theorem wire_Unframe (v : Value) (l : List UInt8) (w : World) (hv : Bs w v l) (hl : l.length ≤ 1073741824) :
    Calls Tryz.prog 71 #[v, .int .i64 0] w (UnfPost w l) := by
  obtain ⟨a, c, rfl, hc, hm, ha, hsp, hr⟩ := id hv
  have hmx := hm
  unfold maxLen at hmx
  have hbW : Below w.heap.size w (w.alloc (.cells #[.slice a l.length c, .int .i64 0] 168)) := (Below.refl _ w).alloc (Nat.le_refl _) _
  have hR : Rdr w.heap.size a c l 0 (w.alloc (.cells #[.slice a l.length c, .int .i64 0] 168)) :=
    ⟨Blk.new w _ _, hv.keep hbW, fun hne k hk e => by have := bs_block hv hne k hk; omega, hl⟩
  clear hr
  go_enter Tryz.func71, Tryz.ntmps71
  go_wp2_with fail
  generalize w.alloc (.cells #[.slice a l.length c, .int .i64 0] 168) = W at *
  by_cases h5 : l.length < 5
  · refine (hR.has _ false (by simp; omega)).mono ?_
    rintro e W1 ⟨rfl, hR1, b1⟩
    have hb1 := hbW.trans (b1.mono hbW.size)
    go_wp2_with fail
    refine bodyPost_ret (v := .tuple #[.int .i64 0, .slice none 0 0, .int .i64 0, .int .i64 20]) (by simp [results, Tryz.results71, go_sem]) rfl ?_
    unfold UnfPost unframe
    rw [if_pos h5]
    exact ⟨20, by decide, rfl, hb1⟩
  · have hne : l ≠ [] := by rintro rfl; simp at h5
    have hext : ∀ {A B : World}, Below w.heap.size w A → Ext (fun b => b = w.heap.size) A B → Below w.heap.size w B := fun {A B} h k => h.trans (k.belowOf h.size (fun b hb e => by omega))
    refine (hR.has _ true (by simp; omega)).mono ?_
    rintro e W1 ⟨rfl, hR1, b1⟩
    have hb1 := hbW.trans (b1.mono hbW.size)
    clear hR hbW b1
    go_wp2_with fail
    refine (hR1.number 1 1 rfl (by omega) (by omega) (by omega)).mono ?_
    rintro e W2 ⟨rfl, hR2, x2⟩
    have hb2 := hext hb1 x2
    clear hR1 hb1 x2
    go_wp2_with fail
    refine (hR2.number 4 4 rfl (by omega) (by omega) (by omega)).mono ?_
    rintro e W3 ⟨rfl, hR3, x3⟩
    have hb3 := hext hb2 x3
    clear hR2 hb2 x3
    simp only [Nat.zero_add, List.drop_zero, Nat.reduceAdd] at hR3 ⊢
    have Hn := hid (show numOf ((l.drop 1).take 4) = numOf ((l.drop 1).take 4) from rfl)
    have Hk := hid (show numOf (l.take 1) = numOf (l.take 1) from rfl)
    have hnl := numOf_lt ((l.drop 1).take 4)
    generalize hn : numOf ((l.drop 1).take 4) = n at *
    generalize hk : numOf (l.take 1) = k at *
    clear Hn Hk
    have Hn := hid hn
    have Hk := hid hk
    clear hn hk
    by_cases hbig : 65536 < n
    · go_wp2_with fail
      refine bodyPost_ret (v := .tuple #[.int .i64 0, .slice none 0 0, .int .i64 0, .int .i64 22]) (by simp [results, Tryz.results71, go_sem]) rfl ?_
      unfold UnfPost unframe
      rw [if_neg h5, Hn.out, if_pos (.inl hbig)]
      exact ⟨22, by decide, rfl, hb3⟩
    · go_wp2_with fail
      by_cases hsh : l.length < 9 + n
      · refine (hR3.has _ false (by simp; omega)).mono ?_
        rintro e W4 ⟨rfl, hR4, b4⟩
        have hb4 := hb3.trans (b4.mono hb3.size)
        go_wp2_with fail
        refine bodyPost_ret (v := .tuple #[.int .i64 0, .slice none 0 0, .int .i64 0, .int .i64 20]) (by simp [results, Tryz.results71, go_sem]) rfl ?_
        unfold UnfPost unframe
        rw [if_neg h5, Hn.out, if_pos (.inr hsh)]
        exact ⟨20, by decide, rfl, hb4⟩
      · refine (hR3.has _ true (by simp; omega)).mono ?_
        rintro e W4 ⟨rfl, hR4, b4⟩
        have hb4 := hb3.trans (b4.mono hb3.size)
        clear hR3 hb3 b4
        go_wp2_with fail
        refine (hR4.take _ n rfl hne (by omega)).mono ?_
        rintro e W5 ⟨a5, c5, rfl, s5, hR5, x5⟩
        have hb5 := hext hb4 x5
        clear hR4 hb4 x5
        go_wp2_with fail
        have B6 := Blk.new W5 #[.slice a5 n c5] 22
        have b6 : Below W5.heap.size W5 (W5.alloc (.cells #[.slice a5 n c5] 22)) := (Below.refl _ _).alloc (Nat.le_refl _) _
        generalize W5.alloc (.cells #[.slice a5 n c5] 22) = W6 at *
        have hR6 := hR5.keep b6
        have hb6 := hb5.trans (b6.mono hb5.size)
        have hP := Parts.one B6 (s5.keep b6)
        have hF : [List.take n (List.drop 5 l)].flatten = List.take n (List.drop 5 l) := by simp
        refine (wire_join _ _ _ _ _ W6 rfl hP (by simp) (Nat.le_trans (Nat.le_of_eq (congrArg List.length hF)) (by simp; omega))).mono ?_
        rw [hF]
        rintro e W7 ⟨v7, rfl, o7, b7⟩
        obtain ⟨a7, c7, rfl⟩ := o7.form
        have hR7 := hR6.keep b7
        have hb7 := hb6.trans (b7.mono hb6.size)
        have h67 : w.heap.size < W6.heap.size := Nat.lt_of_lt_of_le hR6.blk.lt (Nat.le_refl _)
        have hl7 : (List.take n (List.drop 5 l)).length ≤ n := by simp; omega
        have Hl7 := hid (show (List.take n (List.drop 5 l)).length = (List.take n (List.drop 5 l)).length from rfl)
        generalize hbd : List.take n (List.drop 5 l) = bd at *
        have Hbd := hid hbd
        clear hbd Hl7 hF hP B6 b6 hR6 hR5 hb6 b7 hb5 s5
        have hsl : ∀ W, (Instr.slice 22 (.slice a l.length c) (some (.int .i64 0)) (some (.int .i64 ((5 : Int) + (n : Int)))) none).run Tryz.prog W = .ok (.slice (sla a c 0) (5 + n) c) W := fun W => by
          have := run_slice_b Tryz.underlying22 szu8 a l.length c 0 ((5 : Int) + (n : Int)) (by omega) (by omega) (by omega) W
          rw [this, show ((5 : Int) + (n : Int)).toNat = 5 + n from by omega]
          rfl
        have c1 : W7.cell? ⟨w.heap.size, 1, none⟩ = some (.int .i64 ((5 : Int) + (n : Int))) := hR7.blk.cell (o := 1) rfl
        have s8 : Bs W7 (.slice (sla a c 0) (5 + n) c) (l.take (5 + n)) := hR7.bs.slice (lo := 0) (hi := 5 + n) (by omega) (by omega)
        go_wp2_with fail
        refine (wire_Crc _ _ W7 s8 (by simp; omega)).mono ?_
        rintro e W8 ⟨rfl, b8⟩
        have hR8 := hR7.keep b8
        have o8 := o7.keep b8
        have hb8 := hb7.trans (b8.mono hb7.size)
        have hcl := crcOf_lt (l.take (5 + n))
        generalize hcr : crcOf (l.take (5 + n)) = cr at *
        have Hcr := hid hcr
        clear hcr c1 s8 hR7 b8 o7 hb7
        go_wp2_with fail
        refine (hR8.number 4 4 rfl (by omega) (by omega) (by omega)).mono ?_
        rintro e W9 ⟨rfl, hR9, x9⟩
        have hb9 := hext hb8 x9
        have o9 : Own8 W9 w.heap.size 5 (.slice a7 bd.length c7) bd :=
          (o8.ext x9 (fun k hk e => by omega)).mono (by omega)
        generalize hsm : numOf (List.take 4 (List.drop (5 + n) l)) = sm at *
        have Hsm := hid hsm
        clear hsm hR8 hb8 x9 o8
        have c9 : W9.cell? ⟨w.heap.size, 1, none⟩ = some (.int .i64 ((9 : Int) + (n : Int))) := by
          have := hR9.blk.cell (o := 1) rfl
          rw [this]
          congr 2
          simp
          omega
        by_cases hne2 : sm = cr
        · have hq : ((sm : Int) != (cr : Int)) = false := by simp [hne2]
          have Heq := hid hne2
          clear hne2
          go_wp2_with fail
          go_quiet (fail)
          go_wp2_with fail
          refine bodyPost_ret (v := .tuple #[.int .i64 (k : Int), .slice a7 bd.length c7, .int .i64 ((9 : Int) + (n : Int)), .int .i64 0]) (by simp [results, Tryz.results71, go_sem]) rfl ?_
          unfold UnfPost unframe
          rw [if_neg h5, Hn.out, if_neg (by omega), Hsm.out, Hcr.out, if_neg (by simpa using Heq.out), Hk.out, Hbd.out]
          refine ⟨_, ?_, o9.keep (below_of_drewN _ _ _), below_drewN hb9 _⟩
          congr 6
        · have hq : ((sm : Int) != (cr : Int)) = true := by simp; omega
          have Hne := hid (show sm ≠ cr from hne2)
          clear hne2
          go_wp2_with fail
          refine bodyPost_ret (v := .tuple #[.int .i64 0, .slice none 0 0, .int .i64 0, .int .i64 21]) (by simp [results, Tryz.results71, go_sem]) rfl ?_
          unfold UnfPost unframe
          rw [if_neg h5, Hn.out, if_neg (by omega), Hsm.out, Hcr.out, if_pos Hne.out]
          exact ⟨21, by decide, rfl, hb9⟩

end Go.Proofs.YtnbeagcmfcdklaaGreat
