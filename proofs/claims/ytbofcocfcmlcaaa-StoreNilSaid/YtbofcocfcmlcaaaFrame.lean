import Derived.Test.YtbofcocfcmlcaaaJoin
/-! The walks of package wire, on: frames. -/
namespace Go.Proofs.Ytbofcocfcmlcaaa
open Go.RowKit

/-- A frame's bytes ahead of its sum; a frame. -/
def frameH (kind : Int) (body : List UInt8) : List UInt8 := byteOf kind 0 :: (lowB body.length 4 ++ body)
def frameB (kind : Int) (body : List UInt8) : List UInt8 := frameH kind body ++ lowB (crcOf (frameH kind body)) 4

theorem Parts.three {w : World} {g : Nat} {t : TypeId} {a b c : Value} {x y z : List UInt8} (h : Blk w g #[a, b, c] t) (ha : Bs w a x) (hb : Bs w b y) (hc : Bs w c z) : Parts w g [a, b, c] [x, y, z] := by
  refine ⟨rfl, fun i v hv => h.cell (by simpa using hv), fun i v l hv hl => ?_⟩
  match i, hv, hl with
  | 0, hv, hl => simp at hv hl; subst hv hl; exact ha
  | 1, hv, hl => simp at hv hl; subst hv hl; exact hb
  | 2, hv, hl => simp at hv hl; subst hv hl; exact hc
theorem Parts.two {w : World} {g : Nat} {t : TypeId} {a b : Value} {x y : List UInt8} (h : Blk w g #[a, b] t) (ha : Bs w a x) (hb : Bs w b y) : Parts w g [a, b] [x, y] := by
  refine ⟨rfl, fun i v hv => h.cell (by simpa using hv), fun i v l hv hl => ?_⟩
  match i, hv, hl with
  | 0, hv, hl => simp at hv hl; subst hv hl; exact ha
  | 1, hv, hl => simp at hv hl; subst hv hl; exact hb
theorem Parts.one {w : World} {g : Nat} {t : TypeId} {a : Value} {x : List UInt8} (h : Blk w g #[a] t) (ha : Bs w a x) : Parts w g [a] [x] := by
  refine ⟨rfl, fun i v hv => h.cell (by simpa using hv), fun i v l hv hl => ?_⟩
  match i, hv, hl with
  | 0, hv, hl => simp at hv hl; subst hv hl; exact ha

/-- A block of bytes written out. -/
theorem Blk.bs1 {w : World} {g : Nat} {u : UInt8} {t : TypeId} {n : Int} (h : Blk w g #[.int .u8 n] t) (hn : n = (u.toNat : Int)) : Bs w (.slice (some ⟨g, 0, none⟩) 1 1) [u] :=
  Bs.mk rfl (Nat.le_refl _) (by unfold maxLen; omega) (fun i x hx => by
    match i, hx with
    | 0, hx => simp at hx; subst hx; exact h.cell (by simp [hn]))

theorem lowB_val (n : Nat) (k : Nat) : (lowB n k).length = k := lowB_length _ _

set_option maxRecDepth 100000 in
set_option maxHeartbeats 800000 in
theorem wire_Frame (kind : Int) (v : Value) (l : List UInt8) (w : World) (h0 : 0 ≤ kind) (h1 : kind ≤ 255) (hv : Bs w v l) (hl : l.length ≤ 65536) :
    Calls Try.prog 65 #[.int .i64 kind, v] w fun e w' => ∃ v', e = .returned (.tuple #[v', .int .i64 0]) ∧ Own8 w' w.heap.size 5 v' (frameB kind l) ∧ Below w.heap.size w w' := by
  obtain ⟨a, c, rfl, hc, hm, ha, hsp, hr⟩ := id hv
  clear hr
  have hl' : (l.length : Int) ≤ 65536 := by omega
  go_enter Try.func65, Try.ntmps65
  go_wp2_with fail
  have hb1 : Below w.heap.size w (w.alloc (.cells #[.int .u8 kind] 5)) := (Below.refl _ w).alloc (Nat.le_refl _) _
  have B1 := Blk.new w #[.int .u8 kind] 5
  have hv1 := hv.keep hb1
  generalize w.alloc (.cells #[.int .u8 kind] 5) = W1 at *
  refine (wire_low _ _ _ (by omega) (by omega) (by omega)).mono ?_
  rintro e W2 ⟨v2, rfl, o2, b2⟩
  replace o2 : Own8 W2 W1.heap.size 5 v2 (lowB (l.length : Int) 4) := o2
  obtain ⟨a2, c2, rfl⟩ := o2.form
  have B2 := B1.keep b2
  have s1 : Bs W2 _ [byteOf kind 0] := B2.bs1 (by rw [byteOf_val]; simp; omega)
  have hv2 := hv1.keep b2
  have s2 := o2.bs
  have hb2 := hb1.trans (b2.mono hb1.size)
  clear hv hv1 B1 B2 o2 hb1 b2
  go_wp2_with fail
  have B3 := Blk.new W2 #[.slice (some ⟨w.heap.size, 0, none⟩) 1 1, .slice a2 (lowB (l.length : Int) 4).length c2, .slice a l.length c] 34
  have b3 : Below W2.heap.size W2 (W2.alloc (.cells #[.slice (some ⟨w.heap.size, 0, none⟩) 1 1, .slice a2 (lowB (l.length : Int) 4).length c2, .slice a l.length c] 34)) := (Below.refl _ _).alloc (Nat.le_refl _) _
  generalize W2.alloc (.cells #[.slice (some ⟨w.heap.size, 0, none⟩) 1 1, .slice a2 (lowB (l.length : Int) 4).length c2, .slice a l.length c] 34) = W3 at *
  have hb3 := hb2.trans (b3.mono hb2.size)
  have hP := Parts.three B3 (s1.keep b3) (s2.keep b3) (hv2.keep b3)
  have hF : [[byteOf kind 0], lowB (l.length : Int) 4, l].flatten = frameH kind l := by simp [frameH]
  have hFl : (frameH kind l).length ≤ l.length + 5 := by simp [frameH, lowB_length]; omega
  refine (wire_join _ _ _ _ _ W3 rfl hP (by simp) (Nat.le_trans (Nat.le_of_eq (congrArg List.length hF)) (by omega))).mono ?_
  rw [hF]
  rintro e W4 ⟨v4, rfl, o4, b4⟩
  obtain ⟨a4, c4, rfl⟩ := o4.form
  have hb4 := hb3.trans (b4.mono hb3.size)
  clear hP B3 s1 s2 hv2 b3 hb3 b4 hb2
  go_wp2_with fail
  refine (wire_Crc _ _ W4 o4.bs (by omega)).mono ?_
  rintro e W5 ⟨rfl, b5⟩
  have s4 := o4.bs.keep b5
  have hb5 := hb4.trans (b5.mono hb4.size)
  clear o4 b5 hb4
  have hcl := crcOf_lt (frameH kind l)
  generalize hcr : crcOf (frameH kind l) = cr at *
  have Hcr := hid hcr
  clear hcr
  generalize hfh : frameH kind l = fh at *
  have Hfh := hid hfh
  clear hfh
  go_wp2_with fail
  refine (wire_low _ _ W5 (by omega) (by omega) (by omega)).mono ?_
  rintro e W6 ⟨v6, rfl, o6, b6⟩
  replace o6 : Own8 W6 W5.heap.size 5 v6 (lowB (cr : Int) 4) := o6
  obtain ⟨a6, c6, rfl⟩ := o6.form
  have s5 := s4.keep b6
  have hb6 := hb5.trans (b6.mono hb5.size)
  clear s4 b6 hb5
  go_wp2_with fail
  have B7 := Blk.new W6 #[.slice a4 fh.length c4, .slice a6 (lowB (cr : Int) 4).length c6] 34
  have b7 : Below W6.heap.size W6 (W6.alloc (.cells #[.slice a4 fh.length c4, .slice a6 (lowB (cr : Int) 4).length c6] 34)) := (Below.refl _ _).alloc (Nat.le_refl _) _
  generalize W6.alloc (.cells #[.slice a4 fh.length c4, .slice a6 (lowB (cr : Int) 4).length c6] 34) = W7 at *
  have hb7 := hb6.trans (b7.mono hb6.size)
  have hP := Parts.two B7 (s5.keep b7) (o6.bs.keep b7)
  have hG : [fh, lowB (cr : Int) 4].flatten = frameB kind l := by rw [frameB, Hfh.out, Hcr.out]; simp
  refine (wire_join _ _ _ _ _ W7 rfl hP (by simp) (by simp [lowB_length]; omega)).mono ?_
  rw [hG]
  rintro e W8 ⟨v8, rfl, o8, b8⟩
  have hb8 := hb7.trans (b8.mono hb7.size)
  have o8' := o8.mono hb7.size
  clear hG hP o8
  go_wp2_with fail
  go_ret2
  exact ⟨_, rfl, o8', hb8⟩

end Go.Proofs.Ytbofcocfcmlcaaa
