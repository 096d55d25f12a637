import Derived.Test.YtcdcjoofcbdilaaGreatMFrame
import Derived.Test.YtcdcjoofcbdilaaGreatMRegionB
import Derived.Test.YtcdcjoofcbdilaaGreatMSlices
/-! The walks of package wire, on: Unframe. -/
namespace Go.Proofs.YtcdcjoofcbdilaaGreat
open Go.RowKit

/-- What bytes say as a frame: the kind, the body, where it ends. -/
def unframe (l : List UInt8) : Option (Nat × List UInt8 × Nat) :=
  if l.length < 5 then none
  else if 65536 < numOf ((l.drop 1).take 4) ∨ l.length < 9 + numOf ((l.drop 1).take 4) then none
  else if numOf ((l.drop (5 + numOf ((l.drop 1).take 4))).take 4) ≠ crcOf (l.take (5 + numOf ((l.drop 1).take 4))) then none
  else some (numOf (l.take 1), (l.drop 5).take (numOf ((l.drop 1).take 4)), 9 + numOf ((l.drop 1).take 4))

def UnfPost (w : World) (l : List UInt8) (e : Ending) (w' : World) : Prop :=
  match unframe l with
  | none => ∃ c : Int, c ≠ 0 ∧ e = .returned (.tuple #[.int .i64 0, .slice none 0 0, .int .i64 0, .int .i64 c]) ∧ Below w.heap.size w w'
  | some (k, x, to) => ∃ v, e = .returned (.tuple #[.int .i64 (k : Int), v, .int .i64 (to : Int), .int .i64 0]) ∧ Own8 w' w.heap.size 5 v x ∧ Below w.heap.size w w'

theorem bs_block {w : World} {v : Value} {l : List UInt8} (h : Bs w v l) (hne : l ≠ []) : ∀ k, v.ownBlock = some k → k < w.heap.size := by
  obtain ⟨a, c, rfl, hc, hm, ha, hsp, hr⟩ := h
  intro k hk
  cases a with
  | none => simp [Value.ownBlock] at hk
  | some ad =>
    simp [Value.ownBlock] at hk
    subst hk
    obtain ⟨x, y, rfl⟩ := List.exists_cons_of_ne_nil hne
    obtain ⟨_, e, h⟩ := hr 0 x rfl
    cases e
    exact World.block_lt_of_cell? w ⟨ad.block, ad.off + 0, none⟩ h

/-- A reader of bytes, at a place. -/
structure Rdr (g : Nat) (a : Option Addr) (c : Nat) (l : List UInt8) (at_ : Nat) (W : World) : Prop where
  blk : Blk W g #[.slice a l.length c, .int .i64 (at_ : Int)] 256
  bs : Bs W (.slice a l.length c) l
  own : l ≠ [] → ∀ k, (Value.slice a l.length c).ownBlock = some k → k ≠ g
  len : l.length ≤ 1073741824
theorem Rdr.cap {g : Nat} {a : Option Addr} {c : Nat} {l : List UInt8} {at_ : Nat} {W : World} (h : Rdr g a c l at_ W) : l.length ≤ c ∧ c ≤ maxLen := by
  obtain ⟨_, _, e, h1, h2, _⟩ := h.bs
  cases e
  exact ⟨h1, h2⟩
theorem Rdr.keep {g : Nat} {a : Option Addr} {c : Nat} {l : List UInt8} {at_ : Nat} {W W' : World} (h : Rdr g a c l at_ W) (hb : Below W.heap.size W W') : Rdr g a c l at_ W' :=
  ⟨h.blk.keep hb, h.bs.keep hb, h.own, h.len⟩
theorem below_of_drewN (B : Nat) (W : World) (k : Nat) : Below B W (W.drewN k) := below_drewN (Below.refl _ _) k
theorem Rdr.has {g : Nat} {a : Option Addr} {c : Nat} {l : List UInt8} {at_ : Nat} {W : World} (h : Rdr g a c l at_ W) (n : Int) (b : Bool) (hb : b = decide ((at_ : Int) ≤ l.length ∧ n ≤ l.length - at_)) :
    Calls Tryz.prog 147 #[.pointer (some ⟨g, 0, none⟩), .int .i64 n] W fun e W' => e = .returned (.bool b) ∧ Rdr g a c l at_ W' ∧ Below W.heap.size W W' := by
  have hl := h.len
  cases b
  · refine (place_has_false _ _ _ _ _ _ _ (h.blk.cell (o := 0) rfl) (h.blk.cell (o := 1) rfl) (by omega) (by omega) (by have := of_decide_eq_false hb.symm; omega)).mono ?_
    rintro e w' ⟨rfl, k1, rfl⟩
    exact ⟨rfl, h.keep (below_of_drewN _ _ _), below_of_drewN _ _ _⟩
  · have hd := of_decide_eq_true hb.symm
    refine (place_has_true _ _ _ _ _ _ _ (h.blk.cell (o := 0) rfl) (h.blk.cell (o := 1) rfl) (by omega) (by omega) (by omega) (by omega)).mono ?_
    rintro e w' ⟨rfl, k1, rfl⟩
    exact ⟨rfl, h.keep (below_of_drewN _ _ _), below_of_drewN _ _ _⟩
theorem Rdr.moved {g : Nat} {a : Option Addr} {c : Nat} {l : List UInt8} {at_ : Nat} {W : World} (h : Rdr g a c l at_ W) {n : Nat} (hne : l ≠ []) (k : Nat) :
    Rdr g a c l (at_ + n) ((W.setCell ⟨g, 1, none⟩ (.int .i64 ((at_ : Int) + (n : Int)))).drewN k) ∧ Ext (fun b => b = g) W ((W.setCell ⟨g, 1, none⟩ (.int .i64 ((at_ : Int) + (n : Int)))).drewN k) := by
  have he : Ext (fun b => b = g) W ((W.setCell ⟨g, 1, none⟩ (.int .i64 ((at_ : Int) + (n : Int)))).drewN k) := (Ext.setCell (fp := fun b => b = g) (Ext.refl _ _) (.inl rfl) _).drewN k
  exact ⟨⟨h.blk.set (o := 1) _, h.bs.ext he (fun k hk _ e => h.own hne k hk e), h.own, h.len⟩, he⟩
theorem Rdr.number {g : Nat} {a : Option Addr} {c : Nat} {l : List UInt8} {at_ : Nat} {W : World} (h : Rdr g a c l at_ W) (n : Int) (m : Nat) (hn : n = m) (h1 : 1 ≤ m) (h6 : m ≤ 6) (hle : at_ + m ≤ l.length) :
    Calls Tryz.prog 148 #[.pointer (some ⟨g, 0, none⟩), .int .i64 n] W fun e W' => e = .returned (.int .i64 ((numOf ((l.drop at_).take m) : Nat) : Int)) ∧ Rdr g a c l (at_ + m) W' ∧ Ext (fun b => b = g) W W' := by
  subst hn
  have hl := h.len
  have hne : l ≠ [] := by rintro rfl; simp at hle; omega
  refine (reader_number _ _ _ _ (at_ : Int) (m : Int) W (h.blk.cell (o := 0) rfl) (h.blk.cell (o := 1) rfl) (h.blk.free 1) (by omega) (by omega) (by omega) (by omega) (by omega) h.bs (h.own hne)).mono ?_
  rintro e w' ⟨rfl, k1, rfl⟩
  have := h.moved (n := m) hne k1
  rw [Int.toNat_natCast, Int.toNat_natCast]
  exact ⟨rfl, this.1, this.2⟩
theorem Rdr.take {g : Nat} {a : Option Addr} {c : Nat} {l : List UInt8} {at_ : Nat} {W : World} (h : Rdr g a c l at_ W) (n : Int) (m : Nat) (hn : n = m) (hne : l ≠ []) (hle : at_ + m ≤ l.length) :
    Calls Tryz.prog 149 #[.pointer (some ⟨g, 0, none⟩), .int .i64 n] W fun e W' => ∃ a' c', e = .returned (.slice a' m c') ∧ Bs W' (.slice a' m c') ((l.drop at_).take m) ∧ Rdr g a c l (at_ + m) W' ∧ Ext (fun b => b = g) W W' := by
  subst hn
  have hl := h.len
  have hcp := h.cap
  refine (place_take _ _ _ _ (at_ : Int) (m : Int) W (h.blk.cell (o := 0) rfl) (h.blk.cell (o := 1) rfl) (h.blk.free 1) (by omega) (by omega) (by omega) (by omega) (by omega)).mono ?_
  rintro e w' ⟨rfl, k1, rfl⟩
  have := h.moved (n := m) hne k1
  have e1 : ((at_ : Int) + (m : Int)).toNat - (at_ : Int).toNat = m := by omega
  rw [Int.toNat_natCast] at *
  rw [e1]
  have hs := this.1.bs.slice (lo := at_) (hi := at_ + m) (by omega) (by omega)
  rw [show at_ + m - at_ = m from by omega] at hs
  exact ⟨_, _, rfl, hs, this.1, this.2⟩

set_option maxRecDepth 100000 in
set_option maxHeartbeats 1600000 in
theorem wire_Unframe (v : Value) (l : List UInt8) (w : World) (hv : Bs w v l) (hl : l.length ≤ 1073741824) :
    Calls Tryz.prog 109 #[v, .int .i64 0] w (UnfPost w l) := by
  obtain ⟨a, c, rfl, hc, hm, ha, hsp, hr⟩ := id hv
  have hmx := hm
  unfold maxLen at hmx
  have hbW : Below w.heap.size w (w.alloc (.cells #[.slice a l.length c, .int .i64 0] 256)) := (Below.refl _ w).alloc (Nat.le_refl _) _
  have hR : Rdr w.heap.size a c l 0 (w.alloc (.cells #[.slice a l.length c, .int .i64 0] 256)) :=
    ⟨Blk.new w _ _, hv.keep hbW, fun hne k hk e => by have := bs_block hv hne k hk; omega, hl⟩
  clear hr
  go_enter Tryz.func109, Tryz.ntmps109
  go_wp2_with fail
  generalize w.alloc (.cells #[.slice a l.length c, .int .i64 0] 256) = W at *
  by_cases h5 : l.length < 5
  · refine (hR.has _ false (by simp; omega)).mono ?_
    rintro e W1 ⟨rfl, hR1, b1⟩
    have hb1 := hbW.trans (b1.mono hbW.size)
    go_wp2_with fail
    refine bodyPost_ret (v := .tuple #[.int .i64 0, .slice none 0 0, .int .i64 0, .int .i64 20]) (by simp [results, Tryz.results109, go_sem]) rfl ?_
    unfold UnfPost unframe
    rw [if_pos h5]
    exact ⟨20, by decide, rfl, hb1⟩
  · have hne : l ≠ [] := by rintro rfl; simp at h5
    have hext : ∀ {A B : World}, Below w.heap.size w A → Ext (fun b => b = w.heap.size) A B → Below w.heap.size w B := fun {A B} h k => h.trans (k.belowOf h.size (fun b hb e => by omega))
    refine (hR.has _ true (by simp; omega)).mono ?_
    rintro e W1 ⟨rfl, hR1, b1⟩
    have hb1 := hbW.trans (b1.mono hbW.size)
    clear hR hbW b1
    go_wp2_with fail
    refine (hR1.number 1 1 rfl (by omega) (by omega) (by omega)).mono ?_
    rintro e W2 ⟨rfl, hR2, x2⟩
    have hb2 := hext hb1 x2
    clear hR1 hb1 x2
    go_wp2_with fail
    refine (hR2.number 4 4 rfl (by omega) (by omega) (by omega)).mono ?_
    rintro e W3 ⟨rfl, hR3, x3⟩
    have hb3 := hext hb2 x3
    clear hR2 hb2 x3
    simp only [Nat.zero_add, List.drop_zero, Nat.reduceAdd] at hR3 ⊢
    have Hn := hid (show numOf ((l.drop 1).take 4) = numOf ((l.drop 1).take 4) from rfl)
    have Hk := hid (show numOf (l.take 1) = numOf (l.take 1) from rfl)
    have hnl := numOf_lt ((l.drop 1).take 4)
    generalize hn : numOf ((l.drop 1).take 4) = n at *
    generalize hk : numOf (l.take 1) = k at *
    clear Hn Hk
    have Hn := hid hn
    have Hk := hid hk
    clear hn hk
    by_cases hbig : 65536 < n
    · go_wp2_with fail
      refine bodyPost_ret (v := .tuple #[.int .i64 0, .slice none 0 0, .int .i64 0, .int .i64 22]) (by simp [results, Tryz.results109, go_sem]) rfl ?_
      unfold UnfPost unframe
      rw [if_neg h5, Hn.out, if_pos (.inl hbig)]
      exact ⟨22, by decide, rfl, hb3⟩
    · go_wp2_with fail
      by_cases hsh : l.length < 9 + n
      · refine (hR3.has _ false (by simp; omega)).mono ?_
        rintro e W4 ⟨rfl, hR4, b4⟩
        have hb4 := hb3.trans (b4.mono hb3.size)
        go_wp2_with fail
        refine bodyPost_ret (v := .tuple #[.int .i64 0, .slice none 0 0, .int .i64 0, .int .i64 20]) (by simp [results, Tryz.results109, go_sem]) rfl ?_
        unfold UnfPost unframe
        rw [if_neg h5, Hn.out, if_pos (.inr hsh)]
        exact ⟨20, by decide, rfl, hb4⟩
      · refine (hR3.has _ true (by simp; omega)).mono ?_
        rintro e W4 ⟨rfl, hR4, b4⟩
        have hb4 := hb3.trans (b4.mono hb3.size)
        clear hR3 hb3 b4
        go_wp2_with fail
        refine (hR4.take _ n rfl hne (by omega)).mono ?_
        rintro e W5 ⟨a5, c5, rfl, s5, hR5, x5⟩
        have hb5 := hext hb4 x5
        clear hR4 hb4 x5
        go_wp2_with fail
        have B6 := Blk.new W5 #[.slice a5 n c5] 30
        have b6 : Below W5.heap.size W5 (W5.alloc (.cells #[.slice a5 n c5] 30)) := (Below.refl _ _).alloc (Nat.le_refl _) _
        generalize W5.alloc (.cells #[.slice a5 n c5] 30) = W6 at *
        have hR6 := hR5.keep b6
        have hb6 := hb5.trans (b6.mono hb5.size)
        have hP := Parts.one B6 (s5.keep b6)
        have hF : [List.take n (List.drop 5 l)].flatten = List.take n (List.drop 5 l) := by simp
        refine (wire_join _ _ _ _ _ W6 rfl hP (by simp) (Nat.le_trans (Nat.le_of_eq (congrArg List.length hF)) (by simp; omega))).mono ?_
        rw [hF]
        rintro e W7 ⟨v7, rfl, o7, b7⟩
        obtain ⟨a7, c7, rfl⟩ := o7.form
        have hR7 := hR6.keep b7
        have hb7 := hb6.trans (b7.mono hb6.size)
        have h67 : w.heap.size < W6.heap.size := Nat.lt_of_lt_of_le hR6.blk.lt (Nat.le_refl _)
        have hl7 : (List.take n (List.drop 5 l)).length ≤ n := by simp; omega
        have Hl7 := hid (show (List.take n (List.drop 5 l)).length = (List.take n (List.drop 5 l)).length from rfl)
        generalize hbd : List.take n (List.drop 5 l) = bd at *
        have Hbd := hid hbd
        clear hbd Hl7 hF hP B6 b6 hR6 hR5 hb6 b7 hb5 s5
        have hsl : ∀ W, (Instr.slice 30 (.slice a l.length c) (some (.int .i64 0)) (some (.int .i64 ((5 : Int) + (n : Int)))) none).run Tryz.prog W = .ok (.slice (sla a c 0) (5 + n) c) W := fun W => by
          have := run_slice_b Tryz.underlying30 szu8 a l.length c 0 ((5 : Int) + (n : Int)) (by omega) (by omega) (by omega) W
          rw [this, show ((5 : Int) + (n : Int)).toNat = 5 + n from by omega]
          rfl
        have c1 : W7.cell? ⟨w.heap.size, 1, none⟩ = some (.int .i64 ((5 : Int) + (n : Int))) := hR7.blk.cell (o := 1) rfl
        have s8 : Bs W7 (.slice (sla a c 0) (5 + n) c) (l.take (5 + n)) := hR7.bs.slice (lo := 0) (hi := 5 + n) (by omega) (by omega)
        go_wp2_with fail
        refine (wire_Crc _ _ W7 s8 (by simp; omega)).mono ?_
        rintro e W8 ⟨rfl, b8⟩
        have hR8 := hR7.keep b8
        have o8 := o7.keep b8
        have hb8 := hb7.trans (b8.mono hb7.size)
        have hcl := crcOf_lt (l.take (5 + n))
        generalize hcr : crcOf (l.take (5 + n)) = cr at *
        have Hcr := hid hcr
        clear hcr c1 s8 hR7 b8 o7 hb7
        go_wp2_with fail
        refine (hR8.number 4 4 rfl (by omega) (by omega) (by omega)).mono ?_
        rintro e W9 ⟨rfl, hR9, x9⟩
        have hb9 := hext hb8 x9
        have o9 : Own8 W9 w.heap.size 5 (.slice a7 bd.length c7) bd :=
          (o8.ext x9 (fun k hk e => by omega)).mono (by omega)
        generalize hsm : numOf (List.take 4 (List.drop (5 + n) l)) = sm at *
        have Hsm := hid hsm
        clear hsm hR8 hb8 x9 o8
        have c9 : W9.cell? ⟨w.heap.size, 1, none⟩ = some (.int .i64 ((9 : Int) + (n : Int))) := by
          have := hR9.blk.cell (o := 1) rfl
          rw [this]
          congr 2
          simp
          omega
        by_cases hne2 : sm = cr
        · have hq : ((sm : Int) != (cr : Int)) = false := by simp [hne2]
          have Heq := hid hne2
          clear hne2
          go_wp2_with fail
          go_quiet (fail)
          go_wp2_with fail
          refine bodyPost_ret (v := .tuple #[.int .i64 (k : Int), .slice a7 bd.length c7, .int .i64 ((9 : Int) + (n : Int)), .int .i64 0]) (by simp [results, Tryz.results109, go_sem]) rfl ?_
          unfold UnfPost unframe
          rw [if_neg h5, Hn.out, if_neg (by omega), Hsm.out, Hcr.out, if_neg (by simpa using Heq.out), Hk.out, Hbd.out]
          refine ⟨_, ?_, o9.keep (below_of_drewN _ _ _), below_drewN hb9 _⟩
          congr 6
        · have hq : ((sm : Int) != (cr : Int)) = true := by simp; omega
          have Hne := hid (show sm ≠ cr from hne2)
          clear hne2
          go_wp2_with fail
          refine bodyPost_ret (v := .tuple #[.int .i64 0, .slice none 0 0, .int .i64 0, .int .i64 21]) (by simp [results, Tryz.results109, go_sem]) rfl ?_
          unfold UnfPost unframe
          rw [if_neg h5, Hn.out, if_neg (by omega), Hsm.out, Hcr.out, if_pos Hne.out]
          exact ⟨21, by decide, rfl, hb9⟩

end Go.Proofs.YtcdcjoofcbdilaaGreat

/-! The walk of an entry's bytes. -/
namespace Go.Proofs.YtcdcjoofcbdilaaGreat
open Go.RowKit

def entryB (kind loglet pos : Int) (data : List UInt8) : List UInt8 := byteOf kind 0 :: (lowB loglet 6 ++ lowB pos 6 ++ data)

theorem Parts.four {w : World} {g : Nat} {t : TypeId} {a b c d : Value} {x y z u : List UInt8} (h : Blk w g #[a, b, c, d] t) (ha : Bs w a x) (hb : Bs w b y) (hc : Bs w c z) (hd : Bs w d u) : Parts w g [a, b, c, d] [x, y, z, u] := by
  refine ⟨rfl, fun i v hv => h.cell (by simpa using hv), fun i v l hv hl => ?_⟩
  match i, hv, hl with
  | 0, hv, hl => simp at hv hl; subst hv hl; exact ha
  | 1, hv, hl => simp at hv hl; subst hv hl; exact hb
  | 2, hv, hl => simp at hv hl; subst hv hl; exact hc
  | 3, hv, hl => simp at hv hl; subst hv hl; exact hd

set_option maxRecDepth 100000 in
set_option maxHeartbeats 1600000 in
theorem entry_bytes (kind loglet pos : Int) (v : Value) (l : List UInt8) (w : World) (hk0 : 0 ≤ kind) (hk1 : kind ≤ 255) (h0 : 0 ≤ loglet) (h1 : loglet < 281474976710656) (p0 : 0 ≤ pos) (p1 : pos < 281474976710656) (hv : Bs w v l) (hl : l.length ≤ 1000000000) :
    Calls Tryz.prog 190 #[.agg #[.int .i64 kind, .int .i64 loglet, .int .i64 pos, v]] w fun e w' => ∃ v', e = .returned v' ∧ Own8 w' w.heap.size 5 v' (entryB kind loglet pos l) ∧ Below w.heap.size w w' := by
  obtain ⟨a0, c0, rfl⟩ := hv.form
  have hb1 : Below w.heap.size w (w.alloc (.cells #[.int .i64 kind, .int .i64 loglet, .int .i64 pos, .slice a0 l.length c0] 237)) := (Below.refl _ w).alloc (Nat.le_refl _) _
  have B1 := Blk.new w #[.int .i64 kind, .int .i64 loglet, .int .i64 pos, .slice a0 l.length c0] 237
  have hv1 := hv.keep hb1
  have hw8 : IntKind.u8.wrap kind = kind := by rw [IntKind.wrap_u8']; omega
  clear hv
  go_enter Tryz.func190, Tryz.ntmps190
  go_wp2_with fail
  generalize w.alloc (.cells #[.int .i64 kind, .int .i64 loglet, .int .i64 pos, .slice a0 l.length c0] 237) = W at *
  refine wp_region_inv rfl Grows (fun i v x => match i with
      | 0 => v = .pointer (some ⟨w.heap.size, 0, none⟩)
      | 1 => v = .int .i64 kind
      | 2 => v = .int .u8 kind
      | 3 => ∃ g, v = .slice (some ⟨g, 0, none⟩) 1 1 ∧ Bs x v [byteOf kind 0]
      | 4 => v = .pointer (some ⟨w.heap.size, 1, none⟩)
      | 5 => v = .int .i64 loglet
      | 6 => Bs x v (lowB loglet 6)
      | 7 => v = .pointer (some ⟨w.heap.size, 2, none⟩)
      | 8 => v = .int .i64 pos
      | 9 => Bs x v (lowB pos 6)
      | 10 => v = .pointer (some ⟨w.heap.size, 3, none⟩)
      | 11 => v = .slice a0 l.length c0
      | 12 => ∃ g vs, v = .slice (some ⟨g, 0, none⟩) 4 4 ∧ 4 = vs.length ∧ Parts x g vs [[byteOf kind 0], lowB loglet 6, lowB pos 6, l]
      | 13 => Own8 x w.heap.size 5 v (entryB kind loglet pos l)
      | 14 => Own8 x w.heap.size 5 v (entryB kind loglet pos l)
      | _ => True) (by kernel_rfl) (Grows.refl _) Grows.trans ?stab ?steps ?fin
  case stab =>
    intro i v x y hg h
    match i with
    | 0 | 1 | 2 | 4 | 5 | 7 | 8 | 10 | 11 => exact h
    | 3 => exact (by obtain ⟨g, e, hb⟩ := h; exact ⟨g, e, hb.keep hg⟩)
    | 6 => exact Bs.keep h hg
    | 9 => exact Bs.keep h hg
    | 12 => exact (by obtain ⟨g, vs, e, h4, hb⟩ := h; exact ⟨g, vs, e, h4, hb.keep hg⟩)
    | 13 => exact Own8.keep h hg
    | 14 => exact Own8.keep h hg
    | n + 15 => trivial
  case steps =>
    refine ⟨?_, ?_, ?_, ?_, ?_, ?_, ?_, ?_, ?_, ?_, ?_, ?_, ?_, ?_, ?_, trivial⟩
    · intro a x hA
      have t1 := hA.at_ 1 (by rfl) rfl
      refine step_value (w' := x) (v := .pointer (some ⟨w.heap.size, 0, none⟩)) ?_ (Grows.refl _) ?_
      · go_simp
      · rfl
    · intro a x hA
      have t3 : a.tmps[3]?.getD undef = .pointer (some ⟨w.heap.size, 0, none⟩) := hA.dep_ ⟨0, .data⟩ (by simp) _ 3 rfl rfl
      have hBx := B1.keep hA.grown
      have hc0 := hBx.cell (o := 0) rfl
      have hc1 := hBx.cell (o := 1) rfl
      have hc2 := hBx.cell (o := 2) rfl
      have hc3 := hBx.cell (o := 3) rfl
      refine step_value (w' := x) (v := .int .i64 kind) ?_ (Grows.refl _) ?_
      · go_simp
      · rfl
    · intro a x hA
      have t4 : a.tmps[4]?.getD undef = .int .i64 kind := hA.dep_ ⟨1, .data⟩ (by simp) _ 4 rfl rfl
      refine step_value (w' := x) (v := .int .u8 kind) ?_ (Grows.refl _) ?_
      · go_simp
      · rfl
    · intro a x hA
      have t5 : a.tmps[5]?.getD undef = .int .u8 kind := hA.dep_ ⟨2, .data⟩ (by simp) _ 5 rfl rfl
      refine step_value (w' := x.alloc (.cells #[.int .u8 kind] 5)) (v := .slice (some ⟨x.heap.size, 0, none⟩) 1 1) ?_ (Grows.alloc _ _) ?_
      · go_simp
      · exact ⟨_, rfl, (Blk.new _ _ _).bs1 (by rw [byteOf_val]; simp; omega)⟩
    · intro a x hA
      have t1 := hA.at_ 1 (by rfl) rfl
      refine step_value (w' := x) (v := .pointer (some ⟨w.heap.size, 1, none⟩)) ?_ (Grows.refl _) ?_
      · go_simp
      · rfl
    · intro a x hA
      have t7 : a.tmps[7]?.getD undef = .pointer (some ⟨w.heap.size, 1, none⟩) := hA.dep_ ⟨4, .data⟩ (by simp) _ 7 rfl rfl
      have hBx := B1.keep hA.grown
      have hc0 := hBx.cell (o := 0) rfl
      have hc1 := hBx.cell (o := 1) rfl
      have hc2 := hBx.cell (o := 2) rfl
      have hc3 := hBx.cell (o := 3) rfl
      refine step_value (w' := x) (v := .int .i64 loglet) ?_ (Grows.refl _) ?_
      · go_simp
      · rfl
    · intro a x hA
      have t8 : a.tmps[8]?.getD undef = .int .i64 loglet := hA.dep_ ⟨5, .data⟩ (by simp) _ 8 rfl rfl
      refine step_call (f := 207) (args := #[.int .i64 loglet, .int .i64 6]) (by go_simp) ((store_low _ _ x h0 (by omega) (by omega) (by simpa using h1)).mono ?_)
      rintro e w' ⟨v, rfl, ho, hb⟩
      exact ⟨v, rfl, hb, ho.bs⟩
    · intro a x hA
      have t1 := hA.at_ 1 (by rfl) rfl
      refine step_value (w' := x) (v := .pointer (some ⟨w.heap.size, 2, none⟩)) ?_ (Grows.refl _) ?_
      · go_simp
      · rfl
    · intro a x hA
      have t10 : a.tmps[10]?.getD undef = .pointer (some ⟨w.heap.size, 2, none⟩) := hA.dep_ ⟨7, .data⟩ (by simp) _ 10 rfl rfl
      have hBx := B1.keep hA.grown
      have hc0 := hBx.cell (o := 0) rfl
      have hc1 := hBx.cell (o := 1) rfl
      have hc2 := hBx.cell (o := 2) rfl
      have hc3 := hBx.cell (o := 3) rfl
      refine step_value (w' := x) (v := .int .i64 pos) ?_ (Grows.refl _) ?_
      · go_simp
      · rfl
    · intro a x hA
      have t11 : a.tmps[11]?.getD undef = .int .i64 pos := hA.dep_ ⟨8, .data⟩ (by simp) _ 11 rfl rfl
      refine step_call (f := 207) (args := #[.int .i64 pos, .int .i64 6]) (by go_simp) ((store_low _ _ x p0 (by omega) (by omega) (by simpa using p1)).mono ?_)
      rintro e w' ⟨v, rfl, ho, hb⟩
      exact ⟨v, rfl, hb, ho.bs⟩
    · intro a x hA
      have t1 := hA.at_ 1 (by rfl) rfl
      refine step_value (w' := x) (v := .pointer (some ⟨w.heap.size, 3, none⟩)) ?_ (Grows.refl _) ?_
      · go_simp
      · rfl
    · intro a x hA
      have t13 : a.tmps[13]?.getD undef = .pointer (some ⟨w.heap.size, 3, none⟩) := hA.dep_ ⟨10, .data⟩ (by simp) _ 13 rfl rfl
      have hBx := B1.keep hA.grown
      have hc0 := hBx.cell (o := 0) rfl
      have hc1 := hBx.cell (o := 1) rfl
      have hc2 := hBx.cell (o := 2) rfl
      have hc3 := hBx.cell (o := 3) rfl
      refine step_value (w' := x) (v := .slice a0 l.length c0) ?_ (Grows.refl _) ?_
      · go_simp
      · rfl
    · intro a x hA
      have t6 : ∃ g, (a.tmps[6]?.getD undef) = .slice (some ⟨g, 0, none⟩) 1 1 ∧ Bs x (a.tmps[6]?.getD undef) [byteOf kind 0] := hA.dep_ ⟨3, .data⟩ (by simp) _ 6 rfl rfl
      have t9 : Bs x (a.tmps[9]?.getD undef) (lowB loglet 6) := hA.dep_ ⟨6, .data⟩ (by simp) _ 9 rfl rfl
      have t12 : Bs x (a.tmps[12]?.getD undef) (lowB pos 6) := hA.dep_ ⟨9, .data⟩ (by simp) _ 12 rfl rfl
      have t14 : a.tmps[14]?.getD undef = .slice a0 l.length c0 := hA.dep_ ⟨11, .data⟩ (by simp) _ 14 rfl rfl
      obtain ⟨g6, e6, b6⟩ := t6
      obtain ⟨a9, c9, e9⟩ := t9.form
      obtain ⟨a12, c12, e12⟩ := t12.form
      rw [e6] at b6
      rw [e9] at t9
      rw [e12] at t12
      have hl := hv1.keep hA.grown
      have hgr := Grows.alloc x (.cells #[.slice (some ⟨g6, 0, none⟩) 1 1, .slice a9 (lowB loglet 6).length c9, .slice a12 (lowB pos 6).length c12, .slice a0 l.length c0] 30)
      refine step_value (w' := x.alloc (.cells #[.slice (some ⟨g6, 0, none⟩) 1 1, .slice a9 (lowB loglet 6).length c9, .slice a12 (lowB pos 6).length c12, .slice a0 l.length c0] 30)) (v := .slice (some ⟨x.heap.size, 0, none⟩) 4 4) ?_ hgr ?_
      · clear b6 t9 t12 hl
        go_simp
      · exact ⟨_, _, rfl, rfl, Parts.four (Blk.new _ _ _) (b6.keep hgr) (t9.keep hgr) (t12.keep hgr) (hl.keep hgr)⟩
    · intro a x hA
      have t15 : ∃ g vs, (a.tmps[15]?.getD undef) = .slice (some ⟨g, 0, none⟩) 4 4 ∧ 4 = vs.length ∧ Parts x g vs [[byteOf kind 0], lowB loglet 6, lowB pos 6, l] := hA.dep_ ⟨12, .data⟩ (by simp) _ 15 rfl rfl
      obtain ⟨g, vs, e15, h4, hp⟩ := t15
      have hF : [[byteOf kind 0], lowB loglet 6, lowB pos 6, l].flatten = entryB kind loglet pos l := by simp [entryB]
      have hFl : (entryB kind loglet pos l).length ≤ l.length + 13 := by simp [entryB, lowB_length]; omega
      refine step_call (f := 58) (args := #[.slice (some ⟨g, 0, none⟩) 4 4]) (by clear hp; go_simp) ((slices_Concat _ _ _ _ _ x h4 hp (by omega) (by rw [hF]; omega)).mono ?_)
      rw [hF]
      rintro e w' ⟨v, rfl, ho, hb⟩
      have hs := hA.grow.size
      exact ⟨v, rfl, hb, ho.mono (Nat.le_trans hb1.size hs)⟩
    · intro a x hA
      have t16 : Own8 x w.heap.size 5 (a.tmps[16]?.getD undef) (entryB kind loglet pos l) := hA.dep_ ⟨13, .data⟩ (by simp) _ 16 rfl rfl
      exact step_value (w' := x) (v := a.tmps[16]?.getD undef) (by go_simp) (Grows.refl _) t16
  case fin =>
    intro y W' hg hV
    simp only [AllVals] at hV
    obtain ⟨_, _, _, _, _, _, _, _, _, _, _, _, _, _, h14, _⟩ := hV
    have hbW := hb1.trans (Below.mono (Below.trans (below_of_drewN _ W 1) hg) hb1.size)
    clear hg
    simp only [putAll, Act.put, List.setIfInBounds_toArray, List.set_cons_zero, List.set_cons_succ]
    go_wp2_with fail
    go_ret
    exact ⟨y 2, rfl, h14, hbW⟩

end Go.Proofs.YtcdcjoofcbdilaaGreat
